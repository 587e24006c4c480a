/- Texts of TopTriangle's and TopMoved's walks, made small by a printer; no conditions. -/
import Derived.Test.YtnmliebconiefaaGreatDoorQ10
open And renaming intro→cv
open Bool renaming false→ao
open Go renaming Calls→aE,Value→ac,World→O,results→gq
open Go.Ending renaming returned→au
open Go.IntKind renaming i64→c,u8→dA
open Go.Obj renaming cells→an
open Go.Proofs.Tryz renaming prog→aa,results11→aCF
open Go.RowKit renaming intOf→cu
open Go.Value renaming agg→aZ,bool→aA,int→r,slice→E
open Int renaming mul_sub→aCD
open Option renaming none→T,some→A
open Or renaming inr→hD
namespace Go.Proofs.YtnmliebconiefaaGreatDoor
open Go.RowKit Go.Shelf Go.Proofs.Tryz
set_option linter.all false
set_option maxRecDepth 100000
set_option maxHeartbeats 32000000
def aCE:=@List.getElem_append_right
variable {cs:Array ac} {b s t:Int} {base:Nat} {D w:O} {v:ac}
theorem qT.below {U:Raw} (h:qT base w v U) (hb:Below w.heap.size w D):qT base D v U:=by
 obtain⟨bW,bV,aN,e,h1,h2,ap,bl⟩:=h;exact⟨bW,bV,aN,e,o' h1 hb,o' h2 hb,o' ap hb,bl⟩
theorem ahu {ay wr:O} {b6:Nat} (hb:Below w.heap.size w ay) (K:Kept (·=b6) ay wr) (cd:w.heap.size<=b6):bu w wr:=
 ⟨cM hb.size K.size,λk cs t fr h=>by
  have a0:=(gU.1 h).1;have h1:=hb.size;exact(K.block k G G).trans (hb.block k a0)⟩
def qt (d:Nat) (u:Int) (a:bd):bd:=match d with
 |0=>(u,a.2)
 |1=>(a.1,u,a.2.2)
 |_=>(a.1,a.2.1,u)
theorem azB (d:Nat) (a9:d<3) (u:Int) (a:bd):(nL a).set d (r c u)=nL (qt d u a):=by
 match d,a9 with
 |0,_=>rfl
 |1,_=>rfl
 |2,_=>rfl
theorem lV.C2 {ay W:O} {b6:Nat} {bW bV:ac} {g n cap:Nat} {U:Raw} (h:lV ay b6 bW bV (E (A ⟨g,0,T⟩) n cap) U W) (aC:U.arcs.length=n) (k d:Nat) (K:k<U.arcs.length) (a9:d<3) (u:Int) {o:Nat} (aQ:o=k*3+d):
 lV ay b6 bW bV (E (A ⟨g,0,T⟩) n cap) {U with arcs:=U.arcs.set k (qt d u U.arcs[k])} (W.setCell ⟨g,o,T⟩ (r c u)):=by
 subst aQ;have fZ:=h.own.2.2.1;obtain⟨pL,cur,ah⟩:=di fZ (g:=g) rfl;have IT:b6≠g:=λe=>by
  subst e;have a4:=(show W.heap[b6]? =A _ from h.aH).symm.trans (show W.heap[b6]? =A _ from ah);cases a4
 have m_:=zH h.own.1 (p:=⟨g,k*3+d,T⟩) ah bj (r c u);have nK:=zH h.own.2.1 (p:=⟨g,k*3+d,T⟩) ah bj (r c u);have cx:=Bt (n:=n) (by rw[<-aC];rw[<-aC] at fZ;exact fZ) (k*3+d) (r c u);rw[DA 3 nL F_ U.arcs k d (qt d u U.arcs[k]) (r c u) K a9 (λx ak=>by
  rw[eA K] at ak;rw[<-eT ak];exact azB d a9 u _)] at cx
 refine⟨h.aH.gr ⟨g,k*3+d,T⟩ (r c u) IT,⟨m_,nK,?_,h.own.2.2.2⟩,?_⟩
 ·show World.ownsRow _ _ _ _ _ (U.arcs.set k _).length _;rw[gN,aC];exact cx
 ·have K:=h.kept;exact⟨K.os,K.tape,K.output,by simpa using K.size,λj av aB=>(d7 _ _ _ _ (show j≠g by omega)).trans (K.block j av aB)⟩
def nF (a:bd):bd:=(a.2.1,a.1,a.2.2)
def Raw.Fz (U:Raw):Raw:={U with arcs:=U.arcs.map nF}
theorem azC (L:List bd) (k:Nat) (K:k<L.length):(((L.take k).map nF++L.drop k).set k (qt 0 L[k].2.1 L[k])).set k (qt 1 L[k].1 (qt 0 L[k].2.1 L[k]))=(L.take (k+1)).map nF++L.drop (k+1):=by
 rw[QE];have aw:((L.take k).map nF).length=k:=by rw[iT,lS];omega
 rw[ah_ _ _ G,aw,Dm,LS K,bM,uI K,qc,Di];rfl
def hO (n cA v:Int):Int:=(v+cA)%n
theorem LA (n cA v:Int) (aC:1<=n):0<=hO n cA v/\hO n cA v<n:=⟨Ij _ G,FN _ G⟩
theorem LB (a n:Int) (aC:1<=n):-n<a.tmod n/\a.tmod n<n/\a.tmod n=a-n*a.tdiv n:=by
 have h1:=ain a (show 0<n by omega);have h2:-n<a.tmod n:=by
  have h:=ain (-a) (show 0<n by omega);rw[Int.neg_tmod] at h;omega
 exact⟨h2,h1,bI (Int.tmod_add_mul_tdiv a n)⟩
theorem azD (n cA v:Int) (aC:1<=n):((v+cA.tmod n).tmod n+n).tmod n=hO n cA v:=by
 obtain⟨a1,a2,dX⟩:=LB cA n aC;obtain⟨cO,cq,fT⟩:=LB (v+cA.tmod n) n aC;rw[Dl G];unfold hO;rw[fT,dX];rw[show v+(cA-n*cA.tdiv n)-n*(v+(cA-n*cA.tdiv n)).tdiv n+n=(v+cA)+n*(1-cA.tdiv n-(v+(cA-n*cA.tdiv n)).tdiv n) by rw[aCD,aCD,Int.mul_one];omega];exact Int.add_mul_emod_self_left _ _ _
structure H5 (cA:Int) (U oc:Raw):Prop where
 nodes:oc.nodes=U.nodes
 yF:oc.X.length=U.X.length
 yG:oc.Y.length=U.Y.length
 x:∀v:Nat,(v:Int)<U.nodes->oc.X[(hO U.nodes cA v).toNat]? =U.X[v]?
 y:∀v:Nat,(v:Int)<U.nodes->oc.Y[(hO U.nodes cA v).toNat]? =U.Y[v]?
 arcs:oc.arcs=U.arcs.map λa=>(hO U.nodes cA a.1,hO U.nodes cA a.2.1,a.2.2)
theorem WO {n cA u v:Int} (Z:0<=u/\u<n) (aK:0<=v/\v<n) (h:hO n cA u=hO n cA v):u=v:=by
 unfold hO at h;have h2:=Int.emod_emod_of_dvd;have h1:=(Int.emod_eq_emod_iff_emod_sub_eq_zero).1 h;rw[show u+cA-(v+cA)=u-v by omega] at h1;obtain⟨R,ah⟩:=Int.dvd_of_emod_eq_zero h1;have sp:R=0:=by
  rcases Int.lt_trichotomy R 0 with h|h|h
  ·have:n*R<=n*(-1):=XG G G;omega
  ·exact h
  ·have:n*1<=n*R:=XG G G;omega
 rw[sp] at ah;omega
theorem dP.azE {g:Raw} (bK:g.e2) (b:Int) (aB:0<=s/\s<g.nodes) {d:Int}:
 (dP (g.arcs.map λa=>(hO g.nodes b a.1,hO g.nodes b a.2.1,a.2.2)) (hO g.nodes b s) t d↔∃u7,(0<=u7/\u7<g.nodes)/\t=hO g.nodes b u7/\dP g.arcs s u7 d):=by
 constructor
 ·intro h
  induction h with
  |nil=>exact⟨s,aB,rfl,.nil⟩
  |snoc a _ ha he d4=>
   obtain⟨ed,h1,h2,ap⟩:=d4;obtain⟨R,ah,rfl⟩:=jB.1 ha;have ar:=bK.aS R ah;have e:=WO ar.1 h1 (he.trans h2);exact⟨R.2.1,ar.2.1,rfl,ap.snoc R ah e⟩
 ·rintro⟨u7,_,rfl,h⟩
  induction h with
  |nil=>exact .nil
  |@snoc u d a Z ha he d4=>
   exact dP.snoc (a:=(hO g.nodes b a.1,hO g.nodes b a.2.1,a.2.2)) (d4 (he▸(bK.aS a ha).1)) (QH (f:=λa:bd=>(hO g.nodes b a.1,hO g.nodes b a.2.1,a.2.2)) ha) (congrArg (hO g.nodes b) he)
theorem ahv {g m:Raw} (bK:g.e2) (hm:H5 b g m) (aB:0<=s/\s<g.nodes) (ht:0<=t/\t<g.nodes):pn m.arcs (hO g.nodes b s) (hO g.nodes b t)=pn g.arcs s t:=by
 unfold pn;have e:c1 m.arcs (hO g.nodes b s) (hO g.nodes b t)=c1 g.arcs s t:=by
  rw[hm.arcs];refine Tv λd=>?_;rw[dP.azE bK b aB];constructor
  ·rintro⟨u7,h1,h2,ap⟩;rw[WO ht h1 h2];exact ap
  ·intro h;exact⟨t,ht,rfl,h⟩
 rw[e]
theorem azF (Q:List bd) (s t:Int):pn (Q.map kF) t s=pn Q s t:=by
 unfold pn;rw[BV]
theorem azG {g m:Raw} (bK:g.e2) (hm:H5 b g m) (aB:0<=s/\s<g.nodes) (ht:0<=t/\t<g.nodes):
 pn m.arcs (hO g.nodes b s) (hO g.nodes b t)=pn g.arcs s t/\pn (m.arcs.map nF) (hO g.nodes b t) (hO g.nodes b s)=pn g.arcs s t:=
 ⟨ahv bK hm aB ht,(azF m.arcs _ _).trans (ahv bK hm aB ht)⟩
theorem ahw (v:ac) (U:Raw) (w:O) (h:uZ w v U) (aw:U.dR):
 aE aa 32 #[v] w λe D=>∃ca,e=au ca/\qT w.heap.size D ca U/\ae w D:=by
 obtain⟨bW,bV,aN,rfl,ak,az,ha⟩:=h;have mH:=ak.form;have nO:=az.form;have eG:=ha.form;obtain⟨ai,cd⟩:=al w.heap.size;have cq:=(V.new w #[r c U.nodes,bW,bV,aN] 31 (0,0)).alloc (an #[r c 0,E T 0 0,E T 0 0,E T 0 0] 31);have bb:V ((w.alloc (an #[r c U.nodes,bW,bV,aN] 31)).alloc (an #[r c 0,E T 0 0,E T 0 0,E T 0 0] 31)) (w.heap.size+1) #[r c 0,E T 0 0,E T 0 0,E T 0 0] 31:=by
  have h:=V.new (w.alloc (an #[r c U.nodes,bW,bV,aN] 31)) #[r c 0,E T 0 0,E T 0 0,E T 0 0] 31 (0,0)
  rwa[d8] at h
 have hl:=((bx w.heap.size w).alloc (bY _) (an #[r c U.nodes,bW,bV,aN] 31)).alloc a3 (an #[r c 0,E T 0 0,E T 0 0,E T 0 0] 31);have jl:=bu.bg hl;have e7:=I (ak.a_ jl);have ju:=I (az.a_ jl);have dM:=I (ha.a_ jl);have dT:=I cq;have tb:=I bb;rw[<-cd] at dT tb;have wv:aM (ai=w.heap.size):=I cd;obtain⟨jE,qs,jF,rfl⟩:=mH;obtain⟨jS,rF,lU,rfl⟩:=nO;obtain⟨dG,mq,ga,rfl⟩:=eG;obtain⟨e1,qg⟩:=al (ai+1);rw[<-qg] at tb;have tc:aM (e1=ai+1):=I qg;go_in;go_wp2_with fail;rw[show w.heap.size+1=e1 by rw[qg,cd],<-cd];clear cd qg;generalize((w.alloc (an #[r c U.nodes,E jE qs jF,E jS rF lU,E dG mq ga] 31)).alloc (an #[r c 0,E T 0 0,E T 0 0,E T 0 0] 31))=ay at*;refine jQ (λD=>D.cell? (B ai 1)=A (E jE qs jF)/\D.cell? (B ai 2)=A (E jS rF lU)/\D.cell? (B ai 3)=A (E dG mq ga)) 10 rfl ?_;change ej _ _ _ _ _ _ _ 15 _ _ ay.drew;have ax:ay.drew.cell? (B ai 1)=A (E jE qs jF)/\ay.drew.cell? (B ai 2)=A (E jS rF lU)/\ay.drew.cell? (B ai 3)=A (E dG mq ga):=⟨dT.o.cell 1,dT.o.cell 2,dT.o.cell 3⟩;repeat first|refine fS ?_|refine ea ?_
 have a9:=(bx ay.heap.size ay).drew;refine dJ 2 ?_;refine e3 80 #[E jE qs jF] (ME _ U.X ay.drew (e7.o.a_ (bu.bg a9)) aw.1) ?_;rintro e aJ ⟨v1,rfl,D8,aX⟩;refine⟨_,rfl,?_⟩
 replace aX:=a9.next' aX
 have lJ:=dT.o.aq aX;have jI:aJ.cell? (B ai 1)=A (E jE qs jF)/\aJ.cell? (B ai 2)=A (E jS rF lU)/\aJ.cell? (B ai 3)=A (E dG mq ga):=⟨lJ.cell 1,lJ.cell 2,lJ.cell 3⟩;refine⟨λ_=>jI,?_⟩;simp only[bN,bM,bO];repeat first|refine fS ?_|refine ea ?_
 refine dJ 5 ?_;refine e3 80 #[E jS rF lU] (ME _ U.Y aJ (ju.o.a_ (bu.bg aX)) aw.2.1) ?_;rintro e ba ⟨v2,rfl,ww,a5⟩;refine⟨_,rfl,?_⟩;have ck:=aX.next' a5;have lJ:=dT.o.aq ck;refine⟨λ_=>⟨lJ.cell 1,lJ.cell 2,lJ.cell 3⟩,?_⟩;simp only[bN,bM,bO];refine dJ 8 ?_;refine e3 81 #[E dG mq ga] (Yp _ U.arcs ba (dM.o.a_ (bu.bg ck)) aw.2.2) ?_;rintro e bi ⟨rx,rfl,Jv,c_⟩;refine⟨_,rfl,?_⟩;have cT:=ck.next' c_;have lJ:=dT.o.aq cT;have SQ:=tb.o.aq cT;have ax:bi.cell? (B ai 1)=A (E jE qs jF)/\bi.cell? (B ai 2)=A (E jS rF lU)/\bi.cell? (B ai 3)=A (E dG mq ga):=⟨lJ.cell 1,lJ.cell 2,lJ.cell 3⟩;refine⟨λ_=>ax,?_⟩;simp only[bN,bM,bO];have ir:=o' D8 (a5.next' c_);have iO:=o' ww c_;have mY:∀b,v1.ownBlock=A b->b<aJ.heap.size:=λb hb=>(di D8 hb).2.choose_spec.lt;have mr:∀b,v2.ownBlock=A b->aJ.heap.size<=b:=λb hb=>(di ww hb).1;have g4:=aX.size;have oX:=ck.size;have aj:=Yr (base:=w.heap.size) (U:=U) (n5 ir hl.size) (n5 iO (cM hl.size g4)) (n5 Jv (cM hl.size oX)) (λb h1 h2=>by have:=mY b h1;have:=mr b h2;omega);have SR:=I (hl.next' cT);have g':=D8.ic;have iE:=ww.ic;have jx:=Jv.ic;obtain⟨a1,b2,k1,rfl⟩:=g';obtain⟨a2,cm,k2,rfl⟩:=iE;obtain⟨dX,ii,k3,rfl⟩:=jx;have aV:=lJ.cell 1;have f6:=lJ.free 1 (hD (cQ _));change bi.cell? (B ai 1)=A (E jE qs jF) at aV;refine jG 10 (bi.setCell (B ai 1) (E a1 b2 k1)) ?_;have Ah:=lJ.set 1 (E a1 b2 k1);have bb:=Ah.cell 2;have eF:=Ah.free 2 (hD (cQ _));change(bi.setCell (B ai 1) (E a1 b2 k1)).cell? (B ai 2)=A (E jS rF lU) at bb;repeat refine ea ?_
 refine jG 12 ((bi.setCell (B ai 1) (E a1 b2 k1)).setCell (B ai 2) (E a2 cm k2)) ?_;have Ai:=Ah.set 2 (E a2 cm k2);have ch:=Ai.cell 3;have f3:=Ai.free 3 (hD (cQ _));change((bi.setCell (B ai 1) (E a1 b2 k1)).setCell (B ai 2) (E a2 cm k2)).cell? (B ai 3)=A (E dG mq ga) at ch;repeat refine ea ?_
 refine jG 14 (((bi.setCell (B ai 1) (E a1 b2 k1)).setCell (B ai 2) (E a2 cm k2)).setCell (B ai 3) (E dX ii k3)) ?_;refine fc ?_;change Exit.then _ _ Exit.normal _ _;have vf:=Ai.set 3 (E dX ii k3);have R1:=((aj.set (p:=B ai 1) lJ bj bj (E a1 b2 k1)).set (p:=B ai 2) Ah bj bj (E a2 cm k2)).set (p:=B ai 3) Ai bj bj (E dX ii k3);have hle:w.heap.size<=ai:=by rw[wv.o];exact bY _
 have cc:=((SR.o.setCell (p:=B ai 1) hle (E a1 b2 k1)).setCell (p:=B ai 2) hle (E a2 cm k2)).setCell (p:=B ai 3) hle (E dX ii k3);have fk:=((SQ.gr (B ai 1) (E a1 b2 k1) (by simp[tc.o])).gr (B ai 2) (E a2 cm k2) (by simp[tc.o])).gr (B ai 3) (E dX ii k3) (by simp[tc.o]);generalize((bi.setCell (B ai 1) (E a1 b2 k1)).setCell (B ai 2) (E a2 cm k2)).setCell (B ai 3) (E dX ii k3)=bD at*
 replace vf:V bD ai #[r c U.nodes,E a1 b2 k1,E a2 cm k2,E dX ii k3] 31:=vf
 have bR:=vf.cell 0;have aV:=vf.cell 1;have bb:=vf.cell 2;have ch:=vf.cell 3;change bD.cell? (B ai 0)=A (r c U.nodes) at bR;change bD.cell? (B ai 1)=A (E a1 b2 k1) at aV;change bD.cell? (B ai 2)=A (E a2 cm k2) at bb;change bD.cell? (B ai 3)=A (E dX ii k3) at ch;have e0:=fk.cell 0;have br:=fk.cell 1;have a4:=fk.cell 2;have en:=fk.cell 3;change bD.cell? (B e1 0)=A (r c 0) at e0;change bD.cell? (B e1 1)=A (E T 0 0) at br;change bD.cell? (B e1 2)=A (E T 0 0) at a4;change bD.cell? (B e1 3)=A (E T 0 0) at en;have fr:=jw fk;have j5:=fr 0;have f6:=fr 1;have eF:=fr 2;have f3:=fr 3;have hle:w.heap.size<=e1:=by rw[tc.o,wv.o];omega
 have lZ:=(((fk.set 0 (r c U.nodes)).set 1 (E a1 b2 k1)).set 2 (E a2 cm k2)).set 3 (E dX ii k3);have R2:=(((R1.set (p:=B e1 0) fk bj bj (r c U.nodes)).set (p:=B e1 1) (fk.set 0 (r c U.nodes)) bj bj (E a1 b2 k1)).set (p:=B e1 2) ((fk.set 0 (r c U.nodes)).set 1 (E a1 b2 k1)) bj bj (E a2 cm k2)).set (p:=B e1 3) (((fk.set 0 (r c U.nodes)).set 1 (E a1 b2 k1)).set 2 (E a2 cm k2)) bj bj (E dX ii k3);have a':=(((cc.setCell (p:=B e1 0) hle (r c U.nodes)).setCell (p:=B e1 1) hle (E a1 b2 k1)).setCell (p:=B e1 2) hle (E a2 cm k2)).setCell (p:=B e1 3) hle (E dX ii k3);go_wp2_with fail;generalize(((bD.setCell (B e1 0) (r c U.nodes)).setCell (B e1 1) (E a1 b2 k1)).setCell (B e1 2) (E a2 cm k2)).setCell (B e1 3) (E dX ii k3)=hR at*;have fU:=lZ.cell 0;have fO:=lZ.cell 1;have fD:=lZ.cell 2;have iU:=lZ.cell 3;change hR.cell? (B e1 0)=A (r c U.nodes) at fU;change hR.cell? (B e1 1)=A (E a1 b2 k1) at fO;change hR.cell? (B e1 2)=A (E a2 cm k2) at fD;change hR.cell? (B e1 3)=A (E dX ii k3) at iU;exact gh (v:=aZ #[r c U.nodes,E a1 b2 k1,E a2 cm k2,E dX ii k3]) (by simp[gq,results32,go_sem,fU,fO,fD,iU]) rfl ⟨_,rfl,⟨_,_,_,rfl,R2.1,R2.2.1,R2.2.2.1,R2.2.2.2⟩,a'⟩
theorem ahx (n cA v:Int) (cN lx:Nat) (bW bV aN:ac) (w:O) (ar:V w cN #[r c n,bW,bV,aN] 31) (hb:V w lx #[r c cA] 3) (aC:1<=n/\n<=16777216) (aK:0<=v/\v<n):
 aE aa 34 #[r c v,J lx 0,J cN 0] w λe D=>e=au (r c (hO n cA v))/\ae w D:=by
 have bR:=ar.cell 0;have aV:=hb.cell 0;change w.cell? (B cN 0)=A (r c n) at bR;change w.cell? (B lx 0)=A (r c cA) at aV;obtain⟨lC,yh⟩:=al (cA.tmod n);obtain⟨mD,yE⟩:=al ((v+lC).tmod n);obtain⟨xf,K'⟩:=al ((mD+n).tmod n);have hm:aM (xf=hO n cA v):=I (by rw[K',yE,yh];exact azD n cA v aC.1);have cO:=LB cA n aC.1;have cq:=LB (v+lC) n aC.1;have fT:=LB (mD+n) n aC.1;rw[<-yh] at cO;rw[<-yE] at cq;rw[<-K'] at fT;have br:cA.tmod n=lC:=yh.symm;have a4:(v+lC).tmod n=mD:=yE.symm;have en:(mD+n).tmod n=xf:=K'.symm;have ay:IntKind.i64.wrap lC=lC:=by rw[Dk];omega
 have aJ:IntKind.i64.wrap (v+lC)=v+lC:=by rw[Dk];omega
 have ba:IntKind.i64.wrap mD=mD:=by rw[Dk];omega
 have bi:IntKind.i64.wrap (mD+n)=mD+n:=by rw[Dk];omega
 have bD:IntKind.i64.wrap xf=xf:=by rw[Dk];omega
 have r':¬n=0:=G;clear yh yE K' cO cq fT ar hb aC aK;go_in;go_wp2_with fail
 go_quiet (fail)
 generalize Ho:w.drewN _=b' at*;go_wp2_with fail;go_ret;refine⟨by rw[<-hm.o];first|done|rfl,?_⟩;rw[<-Ho];exact below_drewN (bx _ _) _
def pw (n cA:Int) (a:bd):bd:=(hO n cA a.1,hO n cA a.2.1,a.2.2)
theorem azH (n cA:Int) (L:List bd) (k:Nat) (K:k<L.length):(((L.take k).map (pw n cA)++L.drop k).set k (qt 0 (hO n cA L[k].1) L[k])).set k (qt 1 (hO n cA L[k].2.1) (qt 0 (hO n cA L[k].1) L[k]))=(L.take (k+1)).map (pw n cA)++L.drop (k+1):=by
 rw[QE];have aw:((L.take k).map (pw n cA)).length=k:=by rw[iT,lS];omega
 rw[ah_ _ _ G,aw,Dm,LS K,bM,uI K,qc,Di];rfl
theorem azI (v:ac) (U:Raw) (cA:Int) (w:O) (h:uZ w v U) (aw:U.dR):aE aa 11 #[v,r c cA] w λe D=>
 ∃ca oc,e=au ca/\qT w.heap.size D ca oc/\(¬U.ok->oc=U)/\(U.ok->H5 cA U oc)/\ae w D:=by
 have h0:=h;obtain⟨bW,bV,aN,rfl,ak,az,ha⟩:=h;have mH:=id ak;have nO:=id az;have eG:=id ha;obtain⟨a',eB⟩:=al w.heap.size;obtain⟨bk,el⟩:=al (w.heap.size+1);obtain⟨bh,dW⟩:=al (w.heap.size+1+1);obtain⟨ay,bA⟩:=al (((w.alloc (an #[r c U.nodes,bW,bV,aN] 31)).alloc (an #[r c cA] 3)).alloc (an #[r c 0,E T 0 0,E T 0 0,E T 0 0] 31));have aX:=tW bA;have qW:V ay a' #[r c U.nodes,bW,bV,aN] 31:=by rw[bA,eB];exact((V.new _ _ _ _).alloc _).alloc _
 have pg:V ay bk #[r c cA] 3:=by
  rw[bA,el];have h:=V.new (w.alloc (an #[r c U.nodes,bW,bV,aN] 31)) #[r c cA] 3 (0,0);rw[d8] at h;exact h.alloc _
 have q8:V ay bh #[r c 0,E T 0 0,E T 0 0,E T 0 0] 31:=by
  rw[bA,dW];have h:=V.new ((w.alloc (an #[r c U.nodes,bW,bV,aN] 31)).alloc (an #[r c cA] 3)) #[r c 0,E T 0 0,E T 0 0,E T 0 0] 31 (0,0);rw[d8,d8] at h;exact h
 have C:=I (ahw _ U ay (h0.below aX) aw);have kx:=I (h0.below aX);have e7:=I ak;have ju:=I az;have dM:=I ha;have ft:=I aX;have i5:=I qW;have GJ:=I pg;have s2:=I q8;have cX:=I bA;have fG:=I aw;have GT:w.heap.size<=bh:=G;have BH:=I GT;have dT:=I eB;have dh:=I el;have g6:=I dW;have ahy:a'<ay.heap.size/\bk<ay.heap.size/\bh<ay.heap.size:=⟨qW.lt,pg.lt,q8.lt⟩;have dd:=I ahy;have ahz:a'≠bh/\bk≠bh:=G;have tz:=I ahz;clear h0 ak az ha aX qW pg q8 bA aw GT ahy ahz;obtain⟨azJ,LC,rfl,aGj,azK,_⟩:=mH;obtain⟨azL,LD,rfl,aGk,azM,_⟩:=nO;obtain⟨ahA,ahB,rfl,aGl,azN,_⟩:=eG;unfold maxLen at azK azM azN;have g_:=@hJ aa;go_in;go_wp2_with fail;rw[<-cX.o,<-g6.o,<-dh.o,<-dT.o];clear eB el dW;refine C.o.mono ?_;rintro e aJ ⟨v2,rfl,⟨bW,bV,aN,rfl,ir,iO,li,vg⟩,a5⟩;obtain⟨bF,eV⟩:=al aJ.heap.size;obtain⟨ba,cg⟩:=al (aJ.alloc (an #[r c U.nodes,bW,bV,aN] 31));have ck:=dx cg;have Fq:=eK cg eV;have dK:sV ay.heap.size ba bW bV aN U:=sV.below ⟨ir,iO,li,vg⟩ ck;have nd:=a5.next' ck;have bS:lV ay bF bW bV aN U ba:=⟨Fq,dK,⟨nd.os,nd.tape,nd.output,nd.size,λk K _=>nd.block k K⟩⟩;have jL:=I (Y0 _ U ba (kx.o.below nd));have ahC:=(i5.o.aq nd);have ahD:ay.heap.size<=bF:=by rw[eV];exact a5.size
 have bZ:=I bS;have P1:=I ahC;have h4:=I cg;have yj:=I ahD;have mH:∃a R,bW=E a U.X.length R/\(0<U.X.length->∃g,a=A (B g 0)):=by
  rcases ir.2 with⟨h,h0⟩|⟨g,cap,cur,h,_⟩
  ·exact⟨_,_,by rw[h0];exact h,λh=>by omega⟩
  ·exact⟨_,_,h,λ_=>⟨g,rfl⟩⟩
 have nO:∃a R,bV=E a U.Y.length R/\(0<U.Y.length->∃g,a=A (B g 0)):=by
  rcases iO.2 with⟨h,h0⟩|⟨g,cap,cur,h,_⟩
  ·exact⟨_,_,by rw[h0];exact h,λh=>by omega⟩
  ·exact⟨_,_,h,λ_=>⟨g,rfl⟩⟩
 have eG:∃a R,aN=E a U.arcs.length R/\(0<U.arcs.length->∃g,a=A (B g 0)):=by
  rcases li.2 with⟨h,h0⟩|⟨g,cap,cur,h,_⟩
  ·exact⟨_,_,by rw[h0];exact h,λh=>by omega⟩
  ·exact⟨_,_,h,λ_=>⟨g,rfl⟩⟩
 clear bS ahC cg dK ck nd Fq ir iO li vg a5 C ahD;obtain⟨cP,cC,rfl,RP⟩:=mH;obtain⟨eR,ey,rfl,RQ⟩:=nO;obtain⟨e',eD,rfl,WP⟩:=eG;have H6:=P1.o;rw[h4.o] at H6;have q0:=H6.cell 0;change(aJ.alloc (an #[r c U.nodes,E cP U.X.length cC,E eR U.Y.length ey,E e' U.arcs.length eD] 31)).cell? (B a' 0)=A (r c U.nodes) at q0;have q1:=H6.cell 1;change(aJ.alloc (an #[r c U.nodes,E cP U.X.length cC,E eR U.Y.length ey,E e' U.arcs.length eD] 31)).cell? (B a' 1)=A (E azJ U.X.length LC) at q1;have q2:=H6.cell 2;change(aJ.alloc (an #[r c U.nodes,E cP U.X.length cC,E eR U.Y.length ey,E e' U.arcs.length eD] 31)).cell? (B a' 2)=A (E azL U.Y.length LD) at q2;have bm:=H6.cell 3;change(aJ.alloc (an #[r c U.nodes,E cP U.X.length cC,E eR U.Y.length ey,E e' U.arcs.length eD] 31)).cell? (B a' 3)=A (E ahA U.arcs.length ahB) at bm;clear H6;go_wp2_with fail;rw[<-h4.o,<-eV];clear eV;refine jL.o.mono ?_;rintro e bi ⟨u,rfl,ag,c_⟩;have P2:=bZ.o.below c_;have P3:=P1.o.aq c_;have bU:=U.Y5;rcases ag.form with⟨rfl,b5⟩|⟨⟨kp,anh,rfl⟩,b5⟩
 ·have bK:U.ok:=bU.1 b5;have j_:=I (U.IR.1 bK);have NF:=I bK;have jK:=I P2;have aGm:=I P3;have WQ:=P3.cell 0;change bi.cell? (B a' 0)=A (r c U.nodes) at WQ;obtain⟨N,b1⟩:∃N:Nat,(N:Int)=U.nodes:=⟨U.nodes.toNat,bI j_.o.nodes⟩;have c9:=I b1;rw[<-b1] at WQ;have DN:1<=N/\N<=16777216:=bI j_.o.nodes;clear bK bU b5 ag c_ P2 P3 jL bZ P1 q0 q1 q2 bm b1;go_wp2_with fail;go_loopw [19] (λi wr=>∃(k:Nat),k<=N/\i=r c k/\aM (∃jJ tF,lV ay bF (E cP U.X.length cC) (E eR U.Y.length ey) (E e' U.arcs.length eD) {U with X:=jJ,Y:=tF} wr/\jJ.length=U.X.length/\tF.length=U.Y.length/\(∀v:Nat,v<k->jJ[(hO U.nodes cA v).toNat]? =U.X[v]?)/\(∀v:Nat,v<k->tF[(hO U.nodes cA v).toNat]? =U.Y[v]?))) (λi _=>N-(cu i).toNat)
  ·exact⟨0,G,rfl,I ⟨U.X,U.Y,jK.o,rfl,rfl,λv aK=>by omega,λv aK=>by omega⟩⟩
  ·clear WQ;obtain⟨k,K,rfl,hrel⟩:=hrel;obtain⟨jJ,tF,bS,zV,zW,zG,ro⟩:=hrel.o;by_cases a0:k<N
   ·have ie:(k:Int)<N:=G;have azO:U.X.length=N:=g3 j_.o.yF c9.o;have zX:U.Y.length=N:=g3 j_.o.yG c9.o;obtain⟨kt,rfl⟩:=RP G;obtain⟨oS,rfl⟩:=RQ G;have yk:w.heap.size<=bF:=g3 ft.o.size yj.o;have iP:=ahu ft.o bS.kept yk;have De:¬a'=bF:=g3 dd.o.1 yj.o;have LF:¬bk=bF:=g3 dd.o.2.1 yj.o;have cq:=bS.kept.aH i5.o De;have fT:=bS.kept.aH GJ.o LF;obtain⟨ib,m_,azP,EN⟩:=(e7.o.a_ iP).at k G;obtain⟨yl,nK,azQ,DH⟩:=(ju.o.a_ iP).at k G;subst azP azQ;have azR:ib<w.heap.size:=by
     obtain⟨WR,WS,br,a4⟩:=e7.o.at k G;obtain⟨rfl,rfl⟩:ib=WR/\m_=WS:=by simpa using br
     exact zA a4
    have azS:yl<w.heap.size:=by
     obtain⟨WR,WS,br,a4⟩:=ju.o.at k G;obtain⟨rfl,rfl⟩:yl=WR/\nK=WS:=by simpa using br
     exact zA a4
    obtain⟨x,ak⟩:=al (U.X[k]'G);obtain⟨y,az⟩:=al (U.Y[k]'G);rw[<-ak] at EN;rw[<-az] at DH;obtain⟨M,dU⟩:=al ((hO U.nodes cA k).toNat);have zq:=LA U.nodes cA k (bI j_.o.nodes);have Hb:(M:Int)=hO U.nodes cA k:=G;have B5:M<N:=bI c9.o;obtain⟨azT,aGn,DL⟩:=di bS.own.1 (g:=kt) rfl;obtain⟨azU,aGo,I3⟩:=di bS.own.2.1 (g:=oS) rfl;have FA:kt≠oS:=λe=>bS.own.2.2.2 kt rfl (by rw[e];rfl);have sY:=ft.o.size;have lC:bF≠kt:=λe=>by
     have a4:=(show wr.heap[bF]? =A _ from bS.aH).symm.trans (show wr.heap[bF]? =A _ from e▸DL);cases a4
    have mD:bF≠oS:=λe=>by
     have a4:=(show wr.heap[bF]? =A _ from bS.aH).symm.trans (show wr.heap[bF]? =A _ from e▸I3);cases a4
    have xf:a'≠kt:=bI dd.o.1;have FY:a'≠oS:=bI dd.o.1;have FZ:ib≠kt:=G;have Iu:yl≠kt:=G;have qo:∀u,ae wr u->(u.cell? (B bF 1)=A (E (A (B kt 0)) U.X.length cC)/\u.cell? (B bF 2)=A (E (A (B oS 0)) U.Y.length ey)/\u.cell? (B a' 1)=A (E (A (B ib m_)) U.X.length LC)/\u.cell? (B a' 2)=A (E (A (B yl nK)) U.Y.length LD)/\u.cell? (B ib (m_+k))=A (r c x)/\u.cell? (B yl (nK+k))=A (r c y)):=λu Z=>by
     have q1:=(bS.aH.aq Z).cell 1;have q2:=(bS.aH.aq Z).cell 2;have bm:=(cq.aq Z).cell 1;have cZ:=(cq.aq Z).cell 2;exact⟨q1,q2,bm,cZ,mP Z EN,mP Z DH⟩
    have H7:∀u,ae wr u->aE aa 34 #[r c k,J bk 0,J a' 0] u λe D=>e=au (r c M)/\ae u D:=λu Z=>by
     rw[Hb];exact ahx U.nodes cA k a' bk _ _ _ u (cq.aq Z) (fT.aq Z) j_.o.nodes (bI c9.o)
    have hW:∀u,ae wr u->(∃jF lU:Int,u.cell? (B kt M)=A (r c jF)/\u.cell? (B oS M)=A (r c lU)/\u.frozen? (B kt M)=ao/\u.frozen? (B oS M)=ao):=λu Z=>by
     have P4:=bS.below Z;have ij:cR u (E (A (B kt 0)) U.X.length cC) jJ:=jv rfl P4.own.1;have Pw:cR u (E (A (B oS 0)) U.Y.length ey) tF:=jv rfl P4.own.2.1;obtain⟨cO,ir,br,d1⟩:=ij.at M G;obtain⟨azV,iO,a4,d2⟩:=Pw.at M G;obtain⟨rfl,rfl⟩:kt=cO/\0=ir:=by simpa using br
     obtain⟨rfl,rfl⟩:oS=azV/\0=iO:=by simpa using a4
     rw[jC] at d1 d2;exact⟨_,_,d1,d2,(DL.aq Z).free M (hD (cQ _)),(I3.aq Z).free M (hD (cQ _))⟩
    have us:∀u,ae wr u->(∃jJ tF,lV ay bF (E (A (B kt 0)) U.X.length cC) (E (A (B oS 0)) U.Y.length ey) (E e' U.arcs.length eD) {U with X:=jJ,Y:=tF} ((u.setCell (B kt M) (r c x)).setCell (B oS M) (r c y))/\jJ.length=U.X.length/\tF.length=U.Y.length/\(∀v:Nat,v<k+1->jJ[(hO U.nodes cA v).toNat]? =U.X[v]?)/\(∀v:Nat,v<k+1->tF[(hO U.nodes cA v).toNat]? =U.Y[v]?)):=λu Z=>by
     have P4:=bS.below Z;have h1:=P4.Y7 zV M (show M<jJ.length by omega) x;have h2:=h1.Y8 zW M (show M<tF.length by omega) y;have b9:∀v:Nat,v<k->M≠(hO U.nodes cA v).toNat:=λv aK e=>by
      have lw:=LA U.nodes cA v (bI j_.o.nodes);have:=WO (n:=U.nodes) (cA:=cA) (u:=(v:Int)) (v:=(k:Int)) (bI c9.o) (bI c9.o) G;omega
     refine⟨jJ.set M x,tF.set M y,h2,by rw[gN];exact zV,by rw[gN];exact zW,λv aK=>?_,λv aK=>?_⟩
     ·rcases sJ v k with h|h
      ·rw[uM (b9 v h)];exact zG v h
      ·obtain rfl:v=k:=G;rw[<-dU,tJ G,ak,eA G]
     ·rcases sJ v k with h|h
      ·rw[uM (b9 v h)];exact ro v h
      ·obtain rfl:v=k:=G;rw[<-dU,tJ G,az,eA G]
    have eP:=ew k;have js:(k:Int)<U.X.length:=G;have mC:(k:Int)<U.Y.length:=G;have xc:=ew M;have xh:(M:Int)<U.X.length:=G;have aMs:(M:Int)<U.Y.length:=G;have FB:=I qo;have G4:=I H7;have dN:=I hW;have uB:=I us;have eW:=I (cv lC (cv mD (cv xf (cv FY (cv FZ Iu)))));have aGp:oS≠kt:=λe=>FA e.symm;clear hrel bS zG ro azO zX yk iP De LF cq fT EN DH azR azS ak az dU zq Hb DL I3 azT azU sY lC mD xf FY FZ Iu qo H7 hW us zV zW;go_wp2_with fail;refine jQ (λD=>D.cell? (B bF 1)=A (E (A (B kt 0)) U.X.length cC)/\D.cell? (B bF 2)=A (E (A (B oS 0)) U.Y.length ey)/\D.cell? (B a' 1)=A (E (A (B ib m_)) U.X.length LC)/\D.cell? (B a' 2)=A (E (A (B yl nK)) U.Y.length LD)/\D.cell? (B ib (m_+k))=A (r c x)/\D.cell? (B yl (nK+k))=A (r c y)) 23 rfl ?_;change ej _ _ _ _ _ _ _ 24 _ _ wr.drew;have l0:ae wr wr.drew:=(bx _ _).drew;have ax:wr.drew.cell? (B bF 1)=A (E (A (B kt 0)) U.X.length cC)/\wr.drew.cell? (B bF 2)=A (E (A (B oS 0)) U.Y.length ey)/\wr.drew.cell? (B a' 1)=A (E (A (B ib m_)) U.X.length LC)/\wr.drew.cell? (B a' 2)=A (E (A (B yl nK)) U.Y.length LD)/\wr.drew.cell? (B ib (m_+k))=A (r c x)/\wr.drew.cell? (B yl (nK+k))=A (r c y):=FB.o _ l0;repeat first|refine fS ?_|refine ea ?_
    refine dJ 4 ?_;refine e3 34 #[r c k,J bk 0,J a' 0] (G4.o _ l0) ?_;rintro e bD ⟨rfl,cT⟩;refine⟨_,rfl,?_⟩;have lW:=l0.next' cT;clear ax;have ax:=FB.o _ lW;refine⟨λ_=>ax,?_⟩;simp only[bN,bM,bO];refine dJ 9 ?_;refine e3 34 #[r c k,J bk 0,J a' 0] (G4.o _ lW) ?_;rintro e cG ⟨rfl,jn⟩;refine⟨_,rfl,?_⟩;have ke:=lW.next' jn;clear ax;have ax:=FB.o _ ke;refine⟨λ_=>ax,?_⟩;simp only[bN,bM,bO];obtain⟨aGq,aGr,s1,fX,oM,u3⟩:=dN.o _ ke;repeat first|refine fS ?_|refine ea ?_
    refine dJ 21 ?_;refine lG (cG.setCell (B kt M) (r c x)) ?_;have oL:(cG.setCell (B kt M) (r c x)).cell? (B bF 1)=A (E (A (B kt 0)) U.X.length cC)/\(cG.setCell (B kt M) (r c x)).cell? (B bF 2)=A (E (A (B oS 0)) U.Y.length ey)/\(cG.setCell (B kt M) (r c x)).cell? (B a' 1)=A (E (A (B ib m_)) U.X.length LC)/\(cG.setCell (B kt M) (r c x)).cell? (B a' 2)=A (E (A (B yl nK)) U.Y.length LD)/\(cG.setCell (B kt M) (r c x)).cell? (B ib (m_+k))=A (r c x)/\(cG.setCell (B kt M) (r c x)).cell? (B yl (nK+k))=A (r c y):=⟨(mO (d7 _ _ _ _ eW.o.1)).trans ax.1,(mO (d7 _ _ _ _ eW.o.1)).trans ax.2.1,(mO (d7 _ _ _ _ eW.o.2.2.1)).trans ax.2.2.1,(mO (d7 _ _ _ _ eW.o.2.2.1)).trans ax.2.2.2.1,(mO (d7 _ _ _ _ eW.o.2.2.2.2.1)).trans ax.2.2.2.2.1,(mO (d7 _ _ _ _ eW.o.2.2.2.2.2)).trans ax.2.2.2.2.2⟩;refine⟨λ_=>oL,?_⟩;clear ax;repeat first|refine fS ?_|refine ea ?_
    refine jG 23 ((cG.setCell (B kt M) (r c x)).setCell (B oS M) (r c y)) ?_;refine fc ?_;have dq:=I (uB.o _ ke);clear oL s1 fX oM u3 l0 lW ke cT jn;go_wp2_with fail;go_roundw
    ·exact⟨k+1,G,by go_num,I dq.o⟩
    ·simp[cu];omega
   ·obtain rfl:N=k:=G;have u6:=I bS;have OY:=I zG;have TJ:=I ro;have Th:=I zV;have azW:=I zW;have De:¬a'=bF:=g3 dd.o.1 yj.o;have bm:=(bS.kept.aH i5.o De).cell 3;change wr.cell? (B a' 3)=A (E ahA U.arcs.length ahB) at bm;clear hrel bS zG ro zV zW jK De;go_wp2_with fail;go_loopw [48] (λi eM=>∃(k:Nat),k<=U.arcs.length/\i=r c k/\aM (lV ay bF (E cP U.X.length cC) (E eR U.Y.length ey) (E e' U.arcs.length eD) {U with X:=jJ,Y:=tF,arcs:=(U.arcs.take k).map (pw U.nodes cA)++U.arcs.drop k} eM)) (λi _=>U.arcs.length-(cu i).toNat)
    ·exact⟨0,G,rfl,I (by simpa using u6.o)⟩
    ·clear bm u6;obtain⟨k,K,rfl,hrel⟩:=hrel;have bS:=hrel.o;by_cases KB:k<U.arcs.length
     ·have aGs:(k:Int)<U.arcs.length:=G;obtain⟨oF,rfl⟩:=WP G;have yk:w.heap.size<=bF:=g3 ft.o.size yj.o;have iP:=ahu ft.o bS.kept yk;have De:¬a'=bF:=g3 dd.o.1 yj.o;have LF:¬bk=bF:=g3 dd.o.2.1 yj.o;have cq:=bS.kept.aH i5.o De;have fT:=bS.kept.aH GJ.o LF;obtain⟨kC,cx,I_,d0,d1,d2⟩:=(dM.o.a_ iP).at k KB;subst I_;have Dz:=j_.o.aS _ (gB KB);have hlen:((U.arcs.take k).map (pw U.nodes cA)++U.arcs.drop k).length=U.arcs.length:=by rw[gW,iT,lS,Mi];omega
      have va:((U.arcs.take k).map (pw U.nodes cA)++U.arcs.drop k)[k]'G=U.arcs[k]:=by
       have aw:((U.arcs.take k).map (pw U.nodes cA)).length=k:=by rw[iT,lS];omega
       rw[aCE G];simp only[aw,Dm,aiP,uH]
      have hst:=azH U.nodes cA U.arcs k KB;obtain⟨x,ak⟩:=al (U.arcs[k]);rw[<-ak] at d0 d1 d2 hst Dz;obtain⟨c0,cI,dB⟩:=x;simp only at d0 d1 d2 hst;obtain⟨pj,oi,_⟩:=Dz;simp only at pj oi;obtain⟨pv,wo⟩:=al (hO U.nodes cA c0);obtain⟨LG,yN⟩:=al (hO U.nodes cA cI);rw[<-wo,<-yN] at hst;obtain⟨ci,g5⟩:=al wr.heap.size;obtain⟨wc,mI⟩:=al (wr.alloc (an #[r c c0,r c cI,r c dB] 57));have kg:=dx mI;have m':=eK mI g5;obtain⟨pL,cur,rG⟩:=di bS.own.2.2.1 (g:=oF) rfl;have hT:oF<wr.heap.size:=rG.lt;have FA:ci≠oF:=G;have P5:bF≠oF:=λe=>by
       have a4:=(show wr.heap[bF]? =A _ from bS.aH).symm.trans (show wr.heap[bF]? =A _ from e▸rG);cases a4
      have iN:mF wr (E (A (B oF 0)) U.arcs.length eD) ((U.arcs.take k).map (pw U.nodes cA)++U.arcs.drop k):=II rfl (by have h:=bS.own.2.2.1;exact h);obtain⟨WT,WU,jR,q4,dV,cz⟩:=iN.at k G;obtain⟨rfl,rfl⟩:oF=WT/\0=WU:=by simpa using jR
      rw[va,<-ak] at q4 dV;rw[jC] at q4 dV;simp only at q4 dV;have tr:k<((U.arcs.take k).map (pw U.nodes cA)++U.arcs.drop k).length:=G;have us:∀u,ae wc u->lV ay bF (E cP U.X.length cC) (E eR U.Y.length ey) (E (A (B oF 0)) U.arcs.length eD) {U with X:=jJ,Y:=tF,arcs:=(U.arcs.take (k+1)).map (pw U.nodes cA)++U.arcs.drop (k+1)} ((u.setCell (B oF (k*3)) (r c pv)).setCell (B oF (k*3+1)) (r c LG)):=λu Z=>by
       have j6:=((bS.below kg).below Z).C2 (u:=pv) hlen k 0 tr G (o:=k*3) rfl;have P6:k<(((U.arcs.take k).map (pw U.nodes cA)++U.arcs.drop k).set k (qt 0 pv (((U.arcs.take k).map (pw U.nodes cA)++U.arcs.drop k)[k]'tr))).length:=by rw[gN];exact tr
       have xu:=j6.C2 (u:=LG) ((gN ..).trans hlen) k 1 P6 G (o:=k*3+1) rfl;have us:((((U.arcs.take k).map (pw U.nodes cA)++U.arcs.drop k).set k (qt 0 pv (((U.arcs.take k).map (pw U.nodes cA)++U.arcs.drop k)[k]'G))).set k (qt 1 LG ((((U.arcs.take k).map (pw U.nodes cA)++U.arcs.drop k).set k (qt 0 pv (((U.arcs.take k).map (pw U.nodes cA)++U.arcs.drop k)[k]'G)))[k]'(by rw[gN];omega))))=(U.arcs.take (k+1)).map (pw U.nodes cA)++U.arcs.drop (k+1):=by
        rw[Mg,va,<-ak];exact hst
       rw[<-us];exact xu
      have qo:∀u,ae wc u->(u.cell? (B bF 3)=A (E (A (B oF 0)) U.arcs.length eD)/\u.cell? (B ci 0)=A (r c c0)/\u.cell? (B ci 1)=A (r c cI)):=λu Z=>by
       have q1:=((bS.below kg).below Z).aH.cell 3;have q2:=(m'.aq Z).cell 0;have bm:=(m'.aq Z).cell 1;exact⟨q1,q2,bm⟩
      have H7:∀(x M:Int),M=hO U.nodes cA x->(0<=x/\x<U.nodes)->∀u,ae wc u->aE aa 34 #[r c x,J bk 0,J a' 0] u λe D=>e=au (r c M)/\ae u D:=λx M dU ak u Z=>by
       rw[dU];exact ahx U.nodes cA x a' bk _ _ _ u ((cq.aq kg).below Z (cq.aq kg).lt) ((fT.aq kg).below Z (fT.aq kg).lt) j_.o.nodes ak
      have ahE:=H7 c0 pv wo pj;have vM:=H7 cI LG yN oi;have hW:∀u,ae wc u->(u.cell? (B oF (k*3))=A (r c c0)/\u.cell? (B oF (k*3+1))=A (r c cI)/\u.frozen? (B oF (k*3))=ao/\u.frozen? (B oF (k*3+1))=ao):=λu Z=>by
       have IQ:=(rG.below kg hT);have ahF:=IQ.aq Z;exact⟨mP Z (mP kg q4),mP Z (mP kg dV),ahF.free _ (hD (cQ _)),ahF.free _ (hD (cQ _))⟩
      have eP:=ew k;have FB:=I qo;have ub:=I ahE;have xZ:=I vM;have dN:=I hW;have uB:=I us;have eW:=db P5 FA;have z1:=I mI;have t3:=I g5;clear hrel bS yk iP De LF cq fT hlen va hst ak pj oi wo yN mI kg m' rG pL hT FA P5 iN jR q4 dV cz tr us qo H7 ahE vM hW;go_wp2_with fail;rw[<-z1.o,<-t3.o];clear g5;refine jQ (λD=>D.cell? (B bF 3)=A (E (A (B oF 0)) U.arcs.length eD)/\D.cell? (B ci 0)=A (r c c0)/\D.cell? (B ci 1)=A (r c cI)) 19 rfl ?_;change ej _ _ _ _ _ _ _ 20 _ _ wc.drew;have l0:ae wc wc.drew:=(bx _ _).drew;have ax:wc.drew.cell? (B bF 3)=A (E (A (B oF 0)) U.arcs.length eD)/\wc.drew.cell? (B ci 0)=A (r c c0)/\wc.drew.cell? (B ci 1)=A (r c cI):=FB.o _ l0;repeat first|refine fS ?_|refine ea ?_
      refine dJ 9 ?_;refine e3 34 #[r c c0,J bk 0,J a' 0] (ub.o _ l0) ?_;rintro e bD ⟨rfl,cT⟩;refine⟨_,rfl,?_⟩;have lW:=l0.next' cT;clear ax;have ax:=FB.o _ lW;refine⟨λ_=>ax,?_⟩;simp only[bN,bM,bO];refine dJ 13 ?_;refine e3 34 #[r c cI,J bk 0,J a' 0] (xZ.o _ lW) ?_;rintro e cG ⟨rfl,jn⟩;refine⟨_,rfl,?_⟩;have ke:=lW.next' jn;clear ax;have ax:=FB.o _ ke;refine⟨λ_=>ax,?_⟩;simp only[bN,bM,bO];obtain⟨s1,fX,oM,u3⟩:=dN.o _ ke;repeat first|refine fS ?_|refine ea ?_
      refine dJ 16 ?_;refine lG (cG.setCell (B oF (k*3)) (r c pv)) ?_;have oL:(cG.setCell (B oF (k*3)) (r c pv)).cell? (B bF 3)=A (E (A (B oF 0)) U.arcs.length eD)/\(cG.setCell (B oF (k*3)) (r c pv)).cell? (B ci 0)=A (r c c0)/\(cG.setCell (B oF (k*3)) (r c pv)).cell? (B ci 1)=A (r c cI):=⟨(mO (d7 _ _ _ _ eW.o.1)).trans ax.1,(mO (d7 _ _ _ _ eW.o.2)).trans ax.2.1,(mO (d7 _ _ _ _ eW.o.2)).trans ax.2.2⟩;refine⟨λ_=>oL,?_⟩;clear ax;repeat first|refine fS ?_|refine ea ?_
      refine jG 19 ((cG.setCell (B oF (k*3)) (r c pv)).setCell (B oF (k*3+1)) (r c LG)) ?_;refine fc ?_;have dq:=I (uB.o _ ke);clear oL s1 fX oM u3 l0 lW ke cT jn d0 d1 d2;go_wp2_with fail;go_roundw
      ·exact⟨k+1,G,by go_num,I dq.o⟩
      ·simp[cu];omega
     ·obtain rfl:k=U.arcs.length:=G;have he:(U.arcs.take U.arcs.length).map (pw U.nodes cA)++U.arcs.drop U.arcs.length=U.arcs.map (pw U.nodes cA):=a3;rw[he] at bS;have jK:=I bS;have ahG:H5 cA U {U with X:=jJ,Y:=tF,arcs:=U.arcs.map (pw U.nodes cA)}:=⟨rfl,Th.o,azW.o,λv aK=>OY.o v (bI c9.o),λv aK=>TJ.o v (bI c9.o),rfl⟩;have azX:=I ahG;clear bS hrel he ahG;have WV:=jK.o.own.1.ic;have WW:=jK.o.own.2.1.ic;have WX:=jK.o.own.2.2.1.ic;obtain⟨cP,hq,cC,LH⟩:=WV;obtain⟨eR,iF,ey,LI⟩:=WW;obtain⟨e',mZ,eD,LJ⟩:=WX;rw[LH,LI,LJ] at jK;have n9:=jK.o.aH;have bR:=n9.cell 0;have aV:=n9.cell 1;have bb:=n9.cell 2;have ch:=n9.cell 3;change wr.cell? (B bF 0)=A (r c U.nodes) at bR;change wr.cell? (B bF 1)=A (E cP hq cC) at aV;change wr.cell? (B bF 2)=A (E eR iF ey) at bb;change wr.cell? (B bF 3)=A (E e' mZ eD) at ch;have LK:¬bh=bF:=g3 dd.o.2.2 yj.o;have fk:=jK.o.kept.aH s2.o LK;have e0:=fk.cell 0;have br:=fk.cell 1;have a4:=fk.cell 2;have en:=fk.cell 3;change wr.cell? (B bh 0)=A (r c 0) at e0;change wr.cell? (B bh 1)=A (E T 0 0) at br;change wr.cell? (B bh 2)=A (E T 0 0) at a4;change wr.cell? (B bh 3)=A (E T 0 0) at en;have fr:=jw fk;have j5:=fr 0;have f6:=fr 1;have eF:=fr 2;have f3:=fr 3;have hle:=BH.o;have yk:w.heap.size<=bF:=g3 ft.o.size yj.o;have lZ:=(((fk.set 0 (r c U.nodes)).set 1 (E cP hq cC)).set 2 (E eR iF ey)).set 3 (E e' mZ eD);have R2:=(((jK.o.own.set (p:=B bh 0) fk bj bj (r c U.nodes)).set (p:=B bh 1) (fk.set 0 (r c U.nodes)) bj bj (E cP hq cC)).set (p:=B bh 2) ((fk.set 0 (r c U.nodes)).set 1 (E cP hq cC)) bj bj (E eR iF ey)).set (p:=B bh 3) (((fk.set 0 (r c U.nodes)).set 1 (E cP hq cC)).set 2 (E eR iF ey)) bj bj (E e' mZ eD);have LL:=((((MG ft.o jK.o.kept yk).setCell (p:=B bh 0) hle (r c U.nodes)).setCell (p:=B bh 1) hle (E cP hq cC)).setCell (p:=B bh 2) hle (E eR iF ey)).setCell (p:=B bh 3) hle (E e' mZ eD);have sY:=ft.o.size;have fR:=I lZ;have mX:=I R2;have zP:=I LL;clear lZ R2 LL fk n9 fr hle yk jK LK LH LI LJ;go_wp2_with fail;generalize(((wr.setCell (B bh 0) (r c U.nodes)).setCell (B bh 1) (E cP hq cC)).setCell (B bh 2) (E eR iF ey)).setCell (B bh 3) (E e' mZ eD)=hR at*;have fU:=fR.o.cell 0;have fO:=fR.o.cell 1;have fD:=fR.o.cell 2;have iU:=fR.o.cell 3;change hR.cell? (B bh 0)=A (r c U.nodes) at fU;change hR.cell? (B bh 1)=A (E cP hq cC) at fO;change hR.cell? (B bh 2)=A (E eR iF ey) at fD;change hR.cell? (B bh 3)=A (E e' mZ eD) at iU;exact gh (v:=aZ #[r c U.nodes,E cP hq cC,E eR iF ey,E e' mZ eD]) (by simp[gq,aCF,go_sem,fU,fO,fD,iU]) rfl ⟨_,{U with X:=jJ,Y:=tF,arcs:=U.arcs.map (pw U.nodes cA)},rfl,⟨_,_,_,rfl,n5 mX.o.1 sY,n5 mX.o.2.1 sY,n5 mX.o.2.2.1 sY,mX.o.2.2.2⟩,λh=>(h NF.o).elim,λ_=>azX.o,zP.o⟩
 ·have Jx:¬U.ok:=λh=>b5 (bU.2 h);have azY:=I Jx;have jK:=I P2;clear Jx bU b5 ag c_ P2 P3 jL bZ P1 q0 q1 q2 bm;have WV:=jK.o.own.1.ic;have WW:=jK.o.own.2.1.ic;have WX:=jK.o.own.2.2.1.ic;obtain⟨cP,hq,cC,LH⟩:=WV;obtain⟨eR,iF,ey,LI⟩:=WW;obtain⟨e',mZ,eD,LJ⟩:=WX;rw[LH,LI,LJ] at jK;have n9:=jK.o.aH;have bR:=n9.cell 0;have aV:=n9.cell 1;have bb:=n9.cell 2;have ch:=n9.cell 3;change bi.cell? (B bF 0)=A (r c U.nodes) at bR;change bi.cell? (B bF 1)=A (E cP hq cC) at aV;change bi.cell? (B bF 2)=A (E eR iF ey) at bb;change bi.cell? (B bF 3)=A (E e' mZ eD) at ch;have LK:¬bh=bF:=g3 dd.o.2.2 yj.o;have fk:=jK.o.kept.aH s2.o LK;have e0:=fk.cell 0;have br:=fk.cell 1;have a4:=fk.cell 2;have en:=fk.cell 3;change bi.cell? (B bh 0)=A (r c 0) at e0;change bi.cell? (B bh 1)=A (E T 0 0) at br;change bi.cell? (B bh 2)=A (E T 0 0) at a4;change bi.cell? (B bh 3)=A (E T 0 0) at en;have fr:=jw fk;have j5:=fr 0;have f6:=fr 1;have eF:=fr 2;have f3:=fr 3;have hle:=BH.o;have yk:w.heap.size<=bF:=g3 ft.o.size yj.o;have lZ:=(((fk.set 0 (r c U.nodes)).set 1 (E cP hq cC)).set 2 (E eR iF ey)).set 3 (E e' mZ eD);have R2:=(((jK.o.own.set (p:=B bh 0) fk bj bj (r c U.nodes)).set (p:=B bh 1) (fk.set 0 (r c U.nodes)) bj bj (E cP hq cC)).set (p:=B bh 2) ((fk.set 0 (r c U.nodes)).set 1 (E cP hq cC)) bj bj (E eR iF ey)).set (p:=B bh 3) (((fk.set 0 (r c U.nodes)).set 1 (E cP hq cC)).set 2 (E eR iF ey)) bj bj (E e' mZ eD);have LL:=((((MG ft.o jK.o.kept yk).setCell (p:=B bh 0) hle (r c U.nodes)).setCell (p:=B bh 1) hle (E cP hq cC)).setCell (p:=B bh 2) hle (E eR iF ey)).setCell (p:=B bh 3) hle (E e' mZ eD);have sY:=ft.o.size;have fR:=I lZ;have mX:=I R2;have zP:=I LL;clear lZ R2 LL fk n9 fr hle yk jK LK LH LI LJ;go_wp2_with fail;generalize(((bi.setCell (B bh 0) (r c U.nodes)).setCell (B bh 1) (E cP hq cC)).setCell (B bh 2) (E eR iF ey)).setCell (B bh 3) (E e' mZ eD)=hR at*;have fU:=fR.o.cell 0;have fO:=fR.o.cell 1;have fD:=fR.o.cell 2;have iU:=fR.o.cell 3;change hR.cell? (B bh 0)=A (r c U.nodes) at fU;change hR.cell? (B bh 1)=A (E cP hq cC) at fO;change hR.cell? (B bh 2)=A (E eR iF ey) at fD;change hR.cell? (B bh 3)=A (E e' mZ eD) at iU;exact gh (v:=aZ #[r c U.nodes,E cP hq cC,E eR iF ey,E e' mZ eD]) (by simp[gq,aCF,go_sem,fU,fO,fD,iU]) rfl ⟨_,U,rfl,⟨_,_,_,rfl,n5 mX.o.1 sY,n5 mX.o.2.1 sY,n5 mX.o.2.2.1 sY,mX.o.2.2.2⟩,λ_=>rfl,λh=>(azY.o h).elim,zP.o⟩
theorem azZ (v:ac) (U:Raw) (w:O) (h:uZ w v U) (aw:U.dR):aE aa 12 #[v] w λe D=>∃ca,e=au ca/\qT w.heap.size D ca U.Fz/\ae w D:=by
 have h0:=h;obtain⟨bW,bV,aN,rfl,ak,az,ha⟩:=h;have mH:=ak.form;have nO:=az.form;have eG:=ha.form;obtain⟨fE,La⟩:=al w.heap.size;obtain⟨e1,qg⟩:=al (w.heap.size+1);obtain⟨ay,bA⟩:=al ((w.alloc (an #[r c U.nodes,bW,bV,aN] 31)).alloc (an #[r c 0,E T 0 0,E T 0 0,E T 0 0] 31));have aX:=oQ bA;have f7:V ay fE #[r c U.nodes,bW,bV,aN] 31:=by rw[bA,La];exact(V.new _ _ _ _).alloc _
 have qW:V ay e1 #[r c 0,E T 0 0,E T 0 0,E T 0 0] 31:=by
  rw[bA,qg];have h:=V.new (w.alloc (an #[r c U.nodes,bW,bV,aN] 31)) #[r c 0,E T 0 0,E T 0 0,E T 0 0] 31 (0,0)
  rwa[d8] at h
 have C:=I (ahw _ U ay (h0.below aX) aw);have cX:=I bA;have fG:=aw;have HF:¬e1=fE:=G;have BH:w.heap.size<=fE:=G;have tc:=I qg;have UW:=I La;clear bA;obtain⟨_,_,_,rfl⟩:=mH;obtain⟨_,_,_,rfl⟩:=nO;obtain⟨_,_,_,rfl⟩:=eG;go_in;go_wp2_with fail;rw[<-cX.o,<-tc.o,<-UW.o];clear La qg;refine C.o.mono ?_;rintro e aJ ⟨v2,rfl,⟨bW,bV,aN,rfl,ir,iO,li,vg⟩,a5⟩;have zw:=f7.aq a5;have sW:=aR zw 0;have cO:=aR zw 1;have cq:=aR zw 2;have fT:=aR zw 3;have fr:=jw zw;have j5:=fr 0;have f6:=fr 1;have eF:=fr 2;have f3:=fr 3;have dK:sV ay.heap.size aJ bW bV aN U:=⟨ir,iO,li,vg⟩;have mH:=ir.ic;have nO:=iO.ic;have eG:∃a R,aN=E a U.arcs.length R/\(0<U.arcs.length->∃g,a=A (B g 0)):=by
  rcases li.2 with⟨h,h0⟩|⟨g,cap,cur,h,_⟩
  ·exact⟨_,_,by rw[h0];exact h,λh=>by omega⟩
  ·exact⟨_,_,h,λ_=>⟨g,rfl⟩⟩
 obtain⟨cP,hq,cC,rfl⟩:=mH;obtain⟨eR,iF,ey,rfl⟩:=nO;obtain⟨e',eD,rfl,WP⟩:=eG;have lZ:=(((zw.set 0 (r c U.nodes)).set 1 (E cP hq cC)).set 2 (E eR iF ey)).set 3 (E e' U.arcs.length eD);have R2:=(((dK.set (p:=B fE 0) zw bj bj (r c U.nodes)).set (p:=B fE 1) (zw.set 0 (r c U.nodes)) bj bj (E cP hq cC)).set (p:=B fE 2) ((zw.set 0 (r c U.nodes)).set 1 (E cP hq cC)) bj bj (E eR iF ey)).set (p:=B fE 3) (((zw.set 0 (r c U.nodes)).set 1 (E cP hq cC)).set 2 (E eR iF ey)) bj bj (E e' U.arcs.length eD);have e6:Kept (·=fE) ay aJ:=⟨a5.os,a5.tape,a5.output,a5.size,λk K _=>a5.block k K⟩;have pg:=(((e6.setCell (p:=B fE 0) rfl (r c U.nodes)).setCell (p:=B fE 1) rfl (E cP hq cC)).setCell (p:=B fE 2) rfl (E eR iF ey)).setCell (p:=B fE 3) rfl (E e' U.arcs.length eD);have bS:lV ay fE (E cP hq cC) (E eR iF ey) (E e' U.arcs.length eD) U ((((aJ.setCell (B fE 0) (r c U.nodes)).setCell (B fE 1) (E cP hq cC)).setCell (B fE 2) (E eR iF ey)).setCell (B fE 3) (E e' U.arcs.length eD)):=⟨lZ,R2,pg⟩;have bZ:=I bS;go_wp2_with fail;generalize(((aJ.setCell (B fE 0) (r c U.nodes)).setCell (B fE 1) (E cP hq cC)).setCell (B fE 2) (E eR iF ey)).setCell (B fE 3) (E e' U.arcs.length eD)=ba at*;have ch:=bZ.o.aH.cell 3;change ba.cell? (B fE 3)=A (E e' U.arcs.length eD) at ch;have aGt:(U.arcs.length:Int)<=1000000000000:=bI fG.2.2;go_wp2_with fail;go_loopw [10] (λi wr=>∃(k:Nat),k<=U.arcs.length/\i=r c k/\aM (lV ay fE (E cP hq cC) (E eR iF ey) (E e' U.arcs.length eD) {U with arcs:=(U.arcs.take k).map nF++U.arcs.drop k} wr)) (λi _=>U.arcs.length-(cu i).toNat)
 ·exact⟨0,G,rfl,I (by simpa using bZ.o)⟩
 ·obtain⟨k,K,rfl,hrel⟩:=hrel;by_cases a0:k<U.arcs.length
  ·obtain⟨g,rfl⟩:=WP G;have bS:=hrel.o;have hlen:((U.arcs.take k).map nF++U.arcs.drop k).length=U.arcs.length:=by rw[gW,iT,lS,Mi];omega
   have va:((U.arcs.take k).map nF++U.arcs.drop k)[k]'G=U.arcs[k]:=by
    have aw:((U.arcs.take k).map nF).length=k:=by rw[iT,lS];omega
    rw[aCE G];simp only[aw,Dm,aiP,uH]
   have iN:mF wr (E (A (B g 0)) U.arcs.length eD) ((U.arcs.take k).map nF++U.arcs.drop k):=II rfl (by have h:=bS.own.2.2.1;exact h);obtain⟨WT,WU,jR,d0,d1,d2⟩:=iN.at k G;obtain⟨rfl,rfl⟩:g=WT/\0=WU:=by simpa using jR
   rw[va] at d0 d1 d2;rw[jC] at d0 d1 d2;obtain⟨pL,cur,rG⟩:=di bS.own.2.2.1 (g:=g) rfl;have az0:=jw rG;obtain⟨x,ak⟩:=al (U.arcs[k]);have hst:=azC U.arcs k a0;rw[<-ak] at d0 d1 d2 hst;obtain⟨c0,cI,dB⟩:=x;simp only at d0 d1 d2 hst;have ie:(k:Int)<U.arcs.length:=G;have js:=ew k;obtain⟨ci,g5⟩:=al wr.heap.size;obtain⟨wc,mI⟩:=al (wr.alloc (an #[r c c0,r c cI,r c dB] 57));have kg:=dx mI;have m':=eK mI g5;have ahH:=(bS.below kg).below (bx _ wc).drew;have hT:g<wr.heap.size:=rG.lt;have FA:ci≠g:=G;have P5:fE≠g:=λe=>by
    have a4:=(show wr.heap[fE]? =A _ from bS.aH).symm.trans (show wr.heap[fE]? =A _ from e▸rG);cases a4
   have tr:k<((U.arcs.take k).map nF++U.arcs.drop k).length:=G;have j6:=ahH.C2 (u:=cI) hlen k 0 tr G (o:=k*3) rfl;have P6:k<(((U.arcs.take k).map nF++U.arcs.drop k).set k (qt 0 cI (((U.arcs.take k).map nF++U.arcs.drop k)[k]'tr))).length:=by rw[gN];exact tr
   have xu:=j6.C2 (u:=c0) ((gN ..).trans hlen) k 1 P6 G (o:=k*3+1) rfl;have us:((((U.arcs.take k).map nF++U.arcs.drop k).set k (qt 0 cI (((U.arcs.take k).map nF++U.arcs.drop k)[k]'G))).set k (qt 1 c0 ((((U.arcs.take k).map nF++U.arcs.drop k).set k (qt 0 cI (((U.arcs.take k).map nF++U.arcs.drop k)[k]'G)))[k]'(by rw[gN];omega))))=(U.arcs.take (k+1)).map nF++U.arcs.drop (k+1):=by
    rw[Mg,va,<-ak];exact hst
   have qm:lV ay fE (E cP hq cC) (E eR iF ey) (E (A (B g 0)) U.arcs.length eD) {U with arcs:=(U.arcs.take (k+1)).map nF++U.arcs.drop (k+1)} ((wc.drew.setCell (B g (k*3)) (r c cI)).setCell (B g (k*3+1)) (r c c0)):=by
    rw[<-us];exact xu
   have mN:=(rG.below kg hT).drew;have m2:=mN.cell (k*3);have e0:wc.drew.cell? (B g (k*3))=A (r c c0):=mP (kg.drew) d0;have sh:=mN.free (k*3) (hD (cQ _));have br:wc.cell? (B g (k*3+1))=A (r c cI):=mP kg d1;have akY:wc.frozen? (B g (k*3+1))=ao:=(rG.below kg hT).free (k*3+1) (hD (cQ _));have li:wc.cell? (B fE 3)=A (E (A (B g 0)) U.arcs.length eD):=(bS.below kg).aH.cell 3;have xd:wc.cell? (B ci 0)=A (r c c0):=m'.cell 0;have lC:wc.cell? (B ci 1)=A (r c cI):=m'.cell 1;have jI:(wc.drew.setCell (B g (k*3)) (r c cI)).cell? (B fE 3)=A (E (A (B g 0)) U.arcs.length eD)/\(wc.drew.setCell (B g (k*3)) (r c cI)).cell? (B ci 0)=A (r c c0)/\(wc.drew.setCell (B g (k*3)) (r c cI)).cell? (B ci 1)=A (r c cI):=⟨(mO (d7 _ _ _ _ P5)).trans li,(mO (d7 _ _ _ _ FA)).trans xd,(mO (d7 _ _ _ _ FA)).trans lC⟩;have ch:wr.cell? (B fE 3)=A (E (A (B g 0)) U.arcs.length eD):=bS.aH.cell 3;have lY:=I qm;have HH:=I jI;have z1:=I mI;have t3:=I g5;clear hrel bS hlen va iN jR rG az0 hst ak kg m' ahH hT j6 xu us qm mN m2 jI tr P6 mI pL;go_wp2_with fail;rw[<-z1.o,<-t3.o];clear g5;refine jQ (λD=>D.cell? (B fE 3)=A (E (A (B g 0)) U.arcs.length eD)/\D.cell? (B ci 0)=A (r c c0)/\D.cell? (B ci 1)=A (r c cI)) 15 rfl ?_;change ej _ _ _ _ _ _ _ 16 _ _ wc.drew;have ax:wc.drew.cell? (B fE 3)=A (E (A (B g 0)) U.arcs.length eD)/\wc.drew.cell? (B ci 0)=A (r c c0)/\wc.drew.cell? (B ci 1)=A (r c cI):=⟨li,xd,lC⟩;repeat first|refine fS ?_|refine ea ?_
   refine dJ 12 ?_;refine lG (wc.drew.setCell (B g (k*3)) (r c cI)) ?_;have HH:=HH.o;refine⟨λ_=>HH,?_⟩;have ax:=HH;repeat first|refine fS ?_|refine ea ?_
   refine jG 15 ((wc.drew.setCell (B g (k*3)) (r c cI)).setCell (B g (k*3+1)) (r c c0)) ?_;refine fc ?_;go_wp2_with fail;go_roundw
   ·exact⟨k+1,G,by go_num,I lY.o⟩
   ·simp[cu];omega
  ·obtain rfl:k=U.arcs.length:=G;have bS:=hrel.o;have he:(U.arcs.take U.arcs.length).map nF++U.arcs.drop U.arcs.length=U.arcs.map nF:=a3;rw[he] at bS;have jK:=I bS;have n9:=jK.o.aH;have bR:=n9.cell 0;have aV:=n9.cell 1;have bb:=n9.cell 2;have ch:=n9.cell 3;change wr.cell? (B fE 0)=A (r c U.nodes) at bR;change wr.cell? (B fE 1)=A (E cP hq cC) at aV;change wr.cell? (B fE 2)=A (E eR iF ey) at bb;change wr.cell? (B fE 3)=A (E e' U.arcs.length eD) at ch;have fk:=jK.o.kept.aH qW HF;have e0:=fk.cell 0;have br:=fk.cell 1;have a4:=fk.cell 2;have en:=fk.cell 3;change wr.cell? (B e1 0)=A (r c 0) at e0;change wr.cell? (B e1 1)=A (E T 0 0) at br;change wr.cell? (B e1 2)=A (E T 0 0) at a4;change wr.cell? (B e1 3)=A (E T 0 0) at en;have fr:=jw fk;have j5:=fr 0;have f6:=fr 1;have eF:=fr 2;have f3:=fr 3;have hle:w.heap.size<=e1:=by rw[tc.o];omega
   have lZ:=(((fk.set 0 (r c U.nodes)).set 1 (E cP hq cC)).set 2 (E eR iF ey)).set 3 (E e' U.arcs.length eD);have R2:=(((jK.o.own.set (p:=B e1 0) fk bj bj (r c U.nodes)).set (p:=B e1 1) (fk.set 0 (r c U.nodes)) bj bj (E cP hq cC)).set (p:=B e1 2) ((fk.set 0 (r c U.nodes)).set 1 (E cP hq cC)) bj bj (E eR iF ey)).set (p:=B e1 3) (((fk.set 0 (r c U.nodes)).set 1 (E cP hq cC)).set 2 (E eR iF ey)) bj bj (E e' U.arcs.length eD);have a':=((((MG aX jK.o.kept BH).setCell (p:=B e1 0) hle (r c U.nodes)).setCell (p:=B e1 1) hle (E cP hq cC)).setCell (p:=B e1 2) hle (E eR iF ey)).setCell (p:=B e1 3) hle (E e' U.arcs.length eD);have sY:=aX.size;go_wp2_with fail;generalize(((wr.setCell (B e1 0) (r c U.nodes)).setCell (B e1 1) (E cP hq cC)).setCell (B e1 2) (E eR iF ey)).setCell (B e1 3) (E e' U.arcs.length eD)=hR at*;have fU:=lZ.cell 0;have fO:=lZ.cell 1;have fD:=lZ.cell 2;have iU:=lZ.cell 3;change hR.cell? (B e1 0)=A (r c U.nodes) at fU;change hR.cell? (B e1 1)=A (E cP hq cC) at fO;change hR.cell? (B e1 2)=A (E eR iF ey) at fD;change hR.cell? (B e1 3)=A (E e' U.arcs.length eD) at iU;exact gh (v:=aZ #[r c U.nodes,E cP hq cC,E eR iF ey,E e' U.arcs.length eD]) (by simp[gq,results12,go_sem,fU,fO,fD,iU]) rfl ⟨_,rfl,⟨_,_,_,rfl,n5 R2.1 sY,n5 R2.2.1 sY,n5 R2.2.2.1 sY,R2.2.2.2⟩,a'⟩
section
attribute [local go_sem] f'
theorem az1 {U m:Raw} (K:U.e2) (h:H5 b U m):m.e2:=by
 have aC:=K.nodes;have inv:∀i:Nat,(i:Int)<U.nodes->∃v:Nat,(v:Int)<U.nodes/\(hO U.nodes b v).toNat=i:=λi ag=>by
  have Z:=LA U.nodes (-b) i aC.1;refine⟨(hO U.nodes (-b) i).toNat,G,?_⟩;rw[aCn Z.1];unfold hO;rw[Int.emod_add_emod,show(i:Int)+-b+b=i by omega,Int.emod_eq_of_lt G ag];simp
 have mem:∀(L M:List Int),(M.length:Int)=U.nodes->(∀v:Nat,(v:Int)<U.nodes->M[(hO U.nodes b v).toNat]? =L[v]?)->∀x∈M,x∈L:=λL M aw hm x ak=>by
  obtain⟨i,ag,rfl⟩:=FL.1 ak;obtain⟨v,aK,e⟩:=inv i G;have h2:=hm v aK;rw[e,eA ag] at h2;exact L9 h2.symm
 have vF:=K.yF;have o9:=K.yG;have hm:=h.nodes;have ak:=h.yF;have az:=h.yG;refine⟨by rw[hm];exact aC,G,G,λx fx=>K.x x (mem U.X m.X G h.x x fx),λy fx=>K.y y (mem U.Y m.Y G h.y y fx),?_,?_⟩
 ·rw[h.arcs,iT];exact K.arcs
 ·intro a ha;rw[h.arcs] at ha;obtain⟨R,ah,rfl⟩:=jB.1 ha;obtain⟨_,_,ap⟩:=K.aS R ah;rw[hm];exact⟨LA _ _ _ aC.1,LA _ _ _ aC.1,ap⟩
theorem az2 {g m:Raw} {N:Nat} (hf:jz g N) (h:H5 b g m):jz m N/\jz m.Fz N:=by
 have K:=az1 hf.ok h;have aC:=hf.nodes;have hm:=h.nodes;have ha:=hf.po;have mY:m.arcs.length=g.arcs.length:=by rw[h.arcs,iT]
 have mr:m.Fz.arcs.length=m.arcs.length:=iT _;refine⟨⟨K,G,hf.jo,G⟩,⟨⟨K.nodes,K.yF,K.yG,K.x,K.y,?_,?_⟩,by show(N:Int)=m.nodes;omega,hf.jo,G⟩⟩
 ·rw[mr];exact K.arcs
 ·intro a ha;obtain⟨b,hb,rfl⟩:=jB.1 ha;obtain⟨h1,h2,ap⟩:=K.aS b hb;exact⟨h2,h1,ap⟩
def P7 (w:O) (P:Nat) (a b R d:ac):O:=(((w.setCell (B P 0) a).setCell (B P 1) b).setCell (B P 2) R).setCell (B P 3) d
theorem az3 (w:O) (P:Nat) (a b R d:ac):∀k,k≠P->(P7 w P a b R d).heap[k]? =w.heap[k]? :=λk K=>by
 unfold P7;exact(d7 _ _ _ _ K).trans ((d7 _ _ _ _ K).trans ((d7 _ _ _ _ K).trans (d7 _ _ _ _ K)))
theorem WY {e be:TypeId} {size:Nat} {n:Nat} {b7:List ac} {P:Nat} {fr:Nat×Nat} (h:w.ownsRow base e size v n b7) (hb:V w P cs be fr) (ht:be≠e) (K:∀k,k≠P->D.heap[k]? =w.heap[k]?):D.ownsRow base e size v n b7:=
 fB h λk eQ=>K k (λe=>by
  subst e;obtain⟨_,cur,ah⟩:=di h eQ;exact ht (er hb ah))
theorem qT.other {be:TypeId} {U:Raw} {P:Nat} {fr:Nat×Nat} (h:qT base w v U) (hb:V w P cs be fr) (h1:be≠2) (h2:be≠57) (K:∀k,k≠P->D.heap[k]? =w.heap[k]?):qT base D v U:=by
 obtain⟨bW,bV,aN,e,ir,iO,li,vg⟩:=h;exact⟨bW,bV,aN,e,WY ir hb h1 K,WY iO hb h1 K,WY li hb h2 K,vg⟩
theorem qT.form {U:Raw} (h:qT base w v U):∃cP cC eR ey e' eD,v=aZ #[r c U.nodes,E cP U.X.length cC,E eR U.Y.length ey,E e' U.arcs.length eD]:=by
 obtain⟨bW,bV,aN,e,ir,iO,li,vg⟩:=h;obtain⟨cP,cC,rfl,_⟩:=qk ir;obtain⟨eR,ey,rfl,_⟩:=qk iO;obtain⟨e',eD,rfl,_⟩:=qk li;exact⟨cP,cC,eR,ey,e',eD,e⟩
def P8 (L:List Int):Nat->ac->Nat->Nat->O->Prop:=λj v l _ w=>match j with
 |1=>∃g:Raw,qT l w v g/\g.e2/\(g.nodes<=12/\g.arcs.length<=84)
 |3=>∃(k R:Nat) (U q:Int) (d:ac),v=pe k U d q R/\k<=12/\(U=0\/U=1)/\(q=0\/q=1\/q=2)/\(1<=R/\R<=256)/\ip w d .u32 L
 |4=>v= .pointer (A ⟨l,0,T⟩)/\V w l #[r c 0,E T 0 0,E T 0 0,E T 0 0] 31
 |5=>v= .pointer (A ⟨l,0,T⟩)/\V w l #[r c 0,r c 0,E T 0 0,r c 0,r c 0] 39
 |_=>True
theorem az4 (L:List Int) (j:Nat) (v:ac) (l h:Nat) (w D:O) (ah:P8 L j v l h w) (hb:ae w D):P8 L j v l h D:=by
 unfold P8 at ah⊢;split at ah
 ·obtain⟨g,h1,h2⟩:=ah;exact⟨g,h1.below hb,h2⟩
 ·obtain⟨k,R,U,q,d,e,h1,h2,ap,bl,cL⟩:=ah;exact⟨k,R,U,q,d,e,h1,h2,ap,bl,cL.below hb⟩
 ·exact⟨ah.1,ah.2.aq hb⟩
 ·exact⟨ah.1,ah.2.aq hb⟩
 ·trivial
theorem az5 (o1 cU:ac) (fl eh bL:Int) (fu:Bool) (aq g2:List Int) (bB b2 gc f8 h7:Int) (w:O) (hg:HG w) (hb:ip w o1 dA aq) (a9:ip w cU .u32 g2) (WI:∀x∈g2,0<=x/\x<4294967296) (h1:0<=fl/\fl<=255) (h2:0<=eh/\eh<=255) (ap:0<=bL/\bL<=255)
 (aC:(0<=bB/\bB<=255)/\(0<=b2/\b2<=255)) (az:(0<=gc/\gc<=255)/\(0<=f8/\f8<=255)/\(0<=h7/\h7<=255)):
 aE aa 4 #[w4 o1 fl fu cU eh bL,aZ #[r dA bB,r dA b2],aZ #[r dA gc,r dA f8,r dA h7]] w λe D=>e=au (aA true)/\ae w D:=by
 obtain⟨aN,tp,WJ,_⟩:=id hb;obtain⟨qF,uD,Pg,_⟩:=id a9;subst WJ Pg;obtain⟨ay,bA⟩:=al (w.alloc (an #[E aN aq.length tp,r dA fl,aA fu,E qF g2.length uD,r dA eh,r dA bL] 25));obtain⟨aJ,cK⟩:=al (ay.alloc (an #[r dA bB,r dA b2] 52));obtain⟨ba,cg⟩:=al (aJ.alloc (an #[r dA gc,r dA f8,r dA h7] 26));obtain⟨bk,el⟩:=al w.heap.size;obtain⟨bh,dW⟩:=al (w.heap.size+1);obtain⟨bF,eV⟩:=al (w.heap.size+1+1);have s1:ay.heap.size=w.heap.size+1:=by rw[bA];simp
 have fX:aJ.heap.size=w.heap.size+1+1:=by rw[cK];simp[s1]
 have cO:=dx bA;have cq:=dx cK;have fT:=dx cg;have k3:=eK bA el;have k4:=eK cK (dW.trans s1.symm);have k5:=eK cg (eV.trans fX.symm);have ck:ae w ba:=(cO.next' cq).next' fT;have cw:=jU (k3.aq (cq.next' fT)) (k4.aq fT) k5 ck;have dN:=I (cv bA (cv cK (cv cg (cv el (cv dW eV)))));have G':=I (ahi ba (hg.later ck));have HG:=jU hg hb a9 WI;have c9:=qV h1 h2 ap aC az;clear bA cK cg el dW eV;unfold w4;go_in;go_wp2_with fail;rw[<-dN.o.1,<-dN.o.2.1,<-dN.o.2.2.1,<-dN.o.2.2.2.2.2,<-dN.o.2.2.2.2.1,<-dN.o.2.2.2.1];refine dl G'.o λbi c_=>?_;have bC:aM (∀u,ae bi u->u.cell? (B bk 0)=A (E aN aq.length tp)/\u.cell? (B bk 1)=A (r dA fl)/\u.cell? (B bk 2)=A (aA fu)/\u.cell? (B bk 3)=A (E qF g2.length uD)/\u.cell? (B bk 4)=A (r dA eh)/\u.cell? (B bk 5)=A (r dA bL)):=λu Z=>by
  have q:=cw.o.1.aq (c_.next' Z);exact⟨q.cell 0,q.cell 1,q.cell 2,q.cell 3,q.cell 4,q.cell 5⟩
 have ps:=I (λu (Z:ae bi u)=>af2 (E aN aq.length tp) (E qF g2.length uD) fl eh bL fu aq u (HG.o.2.1.below (cw.o.2.2.2.next' (c_.next' Z))));have x7:=I (λu (Z:ae bi u)=>af4 (E aN aq.length tp) (E qF g2.length uD) fl eh bL fu g2 u (HG.o.2.2.1.below (cw.o.2.2.2.next' (c_.next' Z))) c9.o.1 c9.o.2.1 c9.o.2.2.1);unfold w4 at ps x7;go_wp2_with fail;refine pF 7 bC.o λdV dz ax=>?_;have jW:=I dz;repeat first|refine fS ?_|refine ea ?_
 refine yI [1,3,4,5] (P8 (g2.take (min g2.length 12))) (eF:=2) (λj v l h w D ah hb _=>az4 _ _ _ _ _ _ _ ah hb) (λD bU=>bC.o _ (jW.o.next' bU)) ?step ?fin
 case step=>
  intro i ag fj dZ jZ ia t u hp fP hF;simp only[gg,iS,or_false] at ag;have hj:=jW.o.next' hF.below;rcases ag with rfl|rfl|rfl|rfl
  ·have t30:t[30]? =A (aZ #[E aN aq.length tp,r dA fl,aA fu,E qF g2.length uD,r dA eh,r dA bL]):=hF.base fP 30;refine e3 6 #[aZ #[E aN aq.length tp,r dA fl,aA fu,E qF g2.length uD,r dA eh,r dA bL]] (ps.o u hj) ?_;rintro e ed ⟨adM,g,rfl,dK,bK,hT,hb⟩;exact⟨_,rfl,_,rfl,hb,g,dK,bK,hT⟩
  ·have t32:t[32]? =A (aZ #[E aN aq.length tp,r dA fl,aA fu,E qF g2.length uD,r dA eh,r dA bL]):=hF.base fP 32;refine e3 8 #[aZ #[E aN aq.length tp,r dA fl,aA fu,E qF g2.length uD,r dA eh,r dA bL]] (x7.o u hj) ?_;rintro e ed ⟨k,R,U,q,d,rfl,K,ar,aO,ah,Db,hb⟩;exact⟨_,rfl,_,rfl,hb,k,R,U,q,d,rfl,K,ar,aO,ah,Db⟩
  ·exact gD (J u.heap.size 0) (u.alloc (an #[r c 0,E T 0 0,E T 0 0,E T 0 0] 31)) ⟨_,rfl,fb,rfl,V.new _ _ _ _⟩
  ·exact gD (J u.heap.size 0) (u.alloc (an #[r c 0,r c 0,E T 0 0,r c 0,r c 0] 39)) ⟨_,rfl,fb,rfl,V.new _ _ _ _⟩
 case fin=>
  intro dZ jZ ia u hb dK mR;obtain⟨⟨g,cf,bK,hT⟩,cO,_,_⟩:=dK 1 a3;obtain⟨⟨k,R,U,q,d,en,K,ar,aO,az6,Db⟩,_⟩:=dK 3 a3;obtain⟨⟨od,k7⟩,rd,_,_⟩:=dK 4 a3;obtain⟨⟨sb,k8⟩,nh,_,_⟩:=dK 5 a3;obtain⟨cP,cC,eR,ey,e',eD,br⟩:=cf.form;obtain⟨a8,bp,Av,_⟩:=id Db;subst Av;unfold pe at en;obtain⟨n,D2⟩:=al ((g2.take (min g2.length 12)).length);obtain⟨L,hL⟩:=al (g2.take (min g2.length 12));rw[<-D2] at en Db;rw[<-hL] at Db;have Cz:L.length<=1000:=by rw[hL,lS];omega
  have az7:∀x∈L,0<=x/\x<4294967296:=λx ak=>HG.o.2.2.2 x (XT (hL▸ak));rw[br] at cf;rw[br,en,od,sb];obtain⟨b_,ni⟩:=al (jZ 4);obtain⟨dc,kX⟩:=al (jZ 5);rw[<-ni] at k7 rd⊢;rw[<-kX] at k8 nh⊢;have hj:=jW.o.next' hb;have Ft:bi.heap.size<=b_:=cM jW.o.size rd;have Ei:bi.heap.size<=dc:=cM jW.o.size nh;clear ni kX;have ahI:dc≠b_:=λe=>by rw[e] at k8;exact absurd (er k7 k8) bj
  obtain⟨aI,hV⟩:=al (P7 u b_ (r c g.nodes) (E cP g.X.length cC) (E eR g.Y.length ey) (E e' g.arcs.length eD));have hh:=az3 u b_ (r c g.nodes) (E cP g.X.length cC) (E eR g.Y.length ey) (E e' g.arcs.length eD);rw[<-hV] at hh;have nA:ae bi aI:=by rw[hV];exact(((hj.setCell (p:=B b_ 0) Ft _).setCell (p:=B b_ 1) Ft _).setCell (p:=B b_ 2) Ft _).setCell (p:=B b_ 3) Ft _
  have az8:V aI b_ #[r c g.nodes,E cP g.X.length cC,E eR g.Y.length ey,E e' g.arcs.length eD] 31:=by rw[hV];exact(((k7.set 0 _).set 1 _).set 2 _).set 3 _
  have xM:V aI dc #[r c 0,r c 0,E T 0 0,r c 0,r c 0] 39:=(hh dc ahI).trans k8;have NH:=cf.other k7 bj bj hh;have PJ:ip aI (E a8 n bp) .u32 L:=Db.other k7 a3 hh;have p0:=aR k7 0;have p1:=aR k7 1;have p2:=aR k7 2;have e8:=aR k7 3;have fr:=jw k7;have j5:=fr 0;have f6:=fr 1;have eF:=fr 2;have f3:=fr 3;refine jG 6 aI ?_ (he:=by rw[hV];unfold P7;go_simp) (ak:=λ_=>bC.o aI nA);clear hV;obtain⟨cG,fq⟩:=al (C0 aI dc (r c k) (r c U) (E a8 n bp) (r c q) (r c R));have hh:=V8 aI dc (r c k) (r c U) (E a8 n bp) (r c q) (r c R);rw[<-fq] at hh;have jn:ae bi cG:=by rw[fq];exact V_ nA Ei _ _ _ _ _
  have k8:V cG dc #[r c k,r c U,E a8 n bp,r c q,r c R] 39:=by rw[fq];exact V9 xM _ _ _ _ _
  have k7:=(show V cG b_ #[r c g.nodes,E cP g.X.length cC,E eR g.Y.length ey,E e' g.arcs.length eD] 31 (0,0) from(hh b_ (h8 ahI)).trans az8);have az9:=(NH.other xM bj bj hh).raw;have RS:ip cG (E a8 n bp) .u32 L:=PJ.other xM a3 hh;have p0:=aR xM 0;have p1:=aR xM 1;have p2:=aR xM 2;have e8:=aR xM 3;have i6:=aR xM 4;have fr:=jw xM;have j5:=fr 0;have f6:=fr 1;have eF:=fr 2;have f3:=fr 3;have f4:=fr 4;refine jG 7 cG ?_ (he:=by rw[fq];unfold C0;go_simp);refine fc ?_;have WZ:=I (c_.next' jn);have eH:=jU az9 bK hT (cw.o.2.2.2.next' WZ.o);clear fq hL D2;obtain⟨N,b1⟩:∃N:Nat,(N:Int)=g.nodes:=⟨g.nodes.toNat,bI eH.o.2.1.nodes⟩;have iH:jz g N:=⟨eH.o.2.1,b1,bI eH.o.2.2.1,eH.o.2.2.1.2⟩;go_wp2_with fail;have qj:1<=g.nodes:=eH.o.2.1.nodes.1;have CB:¬g.nodes=0:=G;obtain⟨m2,ud,Ly⟩:=rem_in c9.o.2.2.2.1.1.1 b1 qj;obtain⟨s1,g4,Lz⟩:=rem_in c9.o.2.2.2.1.2.1 b1 qj;have Eg:aM (∀u,ae cG u->u.cell? (B bh 0)=A (r dA bB)/\u.cell? (B bh 1)=A (r dA b2)/\u.cell? (B b_ 0)=A (r c g.nodes)):=λu Z=>by
   have p:=k7.aq Z;have q:=cw.o.2.1.aq (WZ.o.next' Z);exact⟨q.cell 0,q.cell 1,p.cell 0⟩
  refine pF 13 Eg.o λmG za ax=>?_;repeat first|refine fS ?_|refine ea ?_
  obtain⟨⟨tm,azo⟩,⟨e4,azp⟩⟩:=c9.o.2.2.2.1;refine ct 2 (r c bB) (λ_=>ax) ?_ (az:=λw=>⟨by rfl,by go_simp;exact ll _ G G⟩);refine ct 8 (r c b2) (λ_=>ax) ?_ (az:=λw=>⟨by rfl,by go_simp;exact ll _ G G⟩);repeat refine ea ?_
  refine kr 13 (r c s1) mG ?_;refine fc ?_;obtain⟨⟨fU,azq⟩,⟨fO,VO⟩,⟨fD,PA⟩⟩:=c9.o.2.2.2.2;have kx:aM (∀u,ae cG u->u.cell? (B bF 0)=A (r dA gc)/\u.cell? (B bF 1)=A (r dA f8)/\u.cell? (B bF 2)=A (r dA h7)):=λu Z=>by
   have ek:=cw.o.2.2.1.aq (WZ.o.next' Z);exact⟨ek.cell 0,ek.cell 1,ek.cell 2⟩
  have cS:aM (∀u,ae cG u->(u.cell? (B b_ 0)=A (r c g.nodes)/\u.cell? (B b_ 1)=A (E cP g.X.length cC)/\u.cell? (B b_ 2)=A (E eR g.Y.length ey)/\u.cell? (B b_ 3)=A (E e' g.arcs.length eD))/\(u.cell? (B dc 0)=A (r c k)/\u.cell? (B dc 1)=A (r c U)/\u.cell? (B dc 2)=A (E a8 n bp)/\u.cell? (B dc 3)=A (r c q)/\u.cell? (B dc 4)=A (r c R))):=λu Z=>by
   have p:=k7.aq Z;have q:=k8.aq Z;exact⟨⟨p.cell 0,p.cell 1,p.cell 2,p.cell 3⟩,q.cell 0,q.cell 1,q.cell 2,q.cell 3,q.cell 4⟩
  have v0:=(kx.o mG za).1;obtain⟨⟨bR,aV,bb,ch⟩,_⟩:=cS.o mG za;have UN:=I (azI _ g gc mG (eH.o.1.below za) (VZ iH));go_wp2_with fail;refine UN.o.mono ?_;rintro e sC ⟨af1,m,rfl,ahJ,_,Pl,w3⟩;obtain⟨W0,W1,W2,W3,W4,W5,rfl⟩:=ahJ.form;obtain⟨az_,EY⟩:=az2 iH (Pl ((Raw.IR g).2 iH.ok));obtain⟨iv,lK⟩:=al (sC.alloc (an #[r c m.nodes,E W0 m.X.length W1,E W2 m.Y.length W3,E W4 m.arcs.length W5] 31));have vr:=dx lK;have k12:=eK lK rfl;obtain⟨qM,HM⟩:=al sC.heap.size;rw[<-HM] at k12;have yg:=I (za.next' (w3.next' vr));obtain⟨⟨bR,aV,bb,ch⟩,gR,gl,kf,lM,rz⟩:=cS.o iv yg.o;rw[lK] at bR aV bb ch gR gl kf lM rz;have eU:=qV (Pl ((Raw.IR g).2 iH.ok)) az_ EY (ahJ.raw.below vr) k12;have yU:=db lK HM;have Zl:1<=N:=bI b1;have bP:=I (λ(u:O) (v:ac) (x:Raw) (Z:ae cG u) (ak:jz x N) (aK:uZ u v x)=>V1 (HG.o.1.later (eH.o.2.2.2.next' Z)) ak Zl aK (RS.below Z) Cz az7 K ar aO az6);unfold pe at bP;clear lK HM;go_wp2_with fail;rw[<-yU.o.1,<-yU.o.2];refine(bP.o iv _ g yg.o iH (eH.o.1.below yg.o)).mono ?_;rintro e eo ⟨df,rfl,bS,lL⟩;have uE:=ig bS lL (yg.o.next' lL);obtain⟨_,gR,gl,kf,lM,rz⟩:=cS.o eo uE.o.2.2;have k12:=eU.o.2.2.2.2.aq uE.o.2.1;have bR:=aR k12 0;have aV:=aR k12 1;have bb:=aR k12 2;have ch:=aR k12 3;go_wp2_with fail;refine(bP.o eo _ m uE.o.2.2 eU.o.2.1 (eU.o.2.2.2.1.below uE.o.2.1)).mono ?_;rintro e fd ⟨aGu,rfl,bS,oo⟩;have zv:=ig bS oo (uE.o.2.2.next' oo);have xN:aM (∀u,ae fd u->(u.cell? (B qM 0)=A (r c m.nodes)/\u.cell? (B qM 1)=A (E W0 m.X.length W1)/\u.cell? (B qM 2)=A (E W2 m.Y.length W3)/\u.cell? (B qM 3)=A (E W4 m.arcs.length W5))/\(u.cell? (B dc 0)=A (r c k)/\u.cell? (B dc 1)=A (r c U)/\u.cell? (B dc 2)=A (E a8 n bp)/\u.cell? (B dc 3)=A (r c q)/\u.cell? (B dc 4)=A (r c R))):=λu Z=>by
   have p:=eU.o.2.2.2.2.aq (uE.o.2.1.next' (zv.o.2.1.next' Z));exact⟨⟨p.cell 0,p.cell 1,p.cell 2,p.cell 3⟩,(cS.o u (zv.o.2.2.next' Z)).2⟩
  go_wp2_with fail;refine pF 3 xN.o λkw CZ ax=>?_;repeat first|refine fS ?_|refine ea ?_
  refine dJ 1 ?_;refine e3 12 #[aZ #[r c m.nodes,E W0 m.X.length W1,E W2 m.Y.length W3,E W4 m.arcs.length W5]] (azZ _ m kw (eU.o.2.2.2.1.below (uE.o.2.1.next' (zv.o.2.1.next' CZ))) (VZ eU.o.2.1)) ?_;rintro e qq ⟨ahK,rfl,az',oz⟩;refine⟨_,rfl,λ_=>xN.o qq (CZ.next' oz),?_⟩;have W6:=db az'.raw (CZ.next' oz);simp only[bN,bM,bO];refine dJ 3 ?_;refine e3 7 #[ahK,aZ #[r c k,r c U,E a8 n bp,r c q,r c R]] (bP.o qq ahK m.Fz (zv.o.2.2.next' W6.o.2) eU.o.2.2.1 W6.o.1) ?_;rintro e nw ⟨aGv,rfl,bS,pU⟩;refine⟨_,rfl,gj,?_⟩;have wW:=db bS (W6.o.2.next' pU);simp only[bN,bM,bO];repeat refine ea ?_
  refine fc ?_;have W7:=db (zv.o.2.1.next' wW.o.2) (zv.o.2.2.next' wW.o.2);have wY:=I (WE (uE.o.1.later W7.o.1));have Lx:=ahj (decide (0<(k:Int))) (!(q==0));obtain⟨W,hW⟩:=al (f0 (hasB (decide (0<(k:Int))) (!(q==0))) 6);rw[<-hW] at wY Lx;have Aw:=db hW Lx;have rc:((W.length:Int)==0)=ao:=by rw[beq_eq_false_iff_ne];omega
  clear hW;go_wp2_with fail;refine wY.o.mono ?_;rintro e gY ⟨a,azn,rfl,xv,km⟩;have l6:=ig xv km (W7.o.2.next' km);go_wp2_with fail;have qj:1<=g.nodes:=eH.o.2.1.nodes.1;have CB:¬g.nodes=0:=G;have aAa:=b1;have aAb:=iH.jo;obtain⟨q4,dm,ahL⟩:=rem_in (x:=(m2:Nat)+gc) G b1 qj;obtain⟨dV,dz,ahM⟩:=rem_in (x:=(s1:Nat)+gc) G b1 qj;obtain⟨jf,rY,rS⟩:∃C aF,C=i0 (c1 g.arcs m2 s1)/\aF=i1 (c1 g.arcs m2 s1):=⟨_,_,rfl,rfl⟩;have is:(i0 (c1 m.arcs q4 dV)=jf/\i1 (c1 m.arcs q4 dV)=rY)/\i0 (c1 m.Fz.arcs dV q4)=jf/\i1 (c1 m.Fz.arcs dV q4)=rY:=by
   have e0:hO g.nodes gc m2=(q4:Nat):=by unfold hO;rw[<-Dl G];exact dm
   have br:hO g.nodes gc s1=(dV:Nat):=by unfold hO;rw[<-Dl G];exact dz
   obtain⟨q1,q2⟩:=azG iH.ok eU.o.1 (s:=(m2:Nat)) (t:=(s1:Nat)) ⟨G,G⟩ ⟨G,G⟩;rw[e0,br] at q1 q2;rw[show m.arcs.map nF=m.Fz.arcs from rfl] at q2;simp only[ahk,Prod.mk.injEq] at q1 q2;rw[rS.1,rS.2];exact⟨q1,q2⟩
  have cH:=I is;have EU:=I rS;clear is rS;have sW:IntKind.i64.wrap ((m2:Int)+gc)=(m2:Int)+gc:=ll _ G G;have cO:IntKind.i64.wrap ((s1:Int)+gc)=(s1:Int)+gc:=ll _ G G;clear aAa aAb;have aAc:aM (∀u,ae gY u->u.cell? (B b_ 0)=A (r c g.nodes)):=λu Z=>((cS.o u (l6.o.2.2.next' Z)).1).1;refine pF 13 aAc.o λt8 ahN ax=>?_;have aAd:=I ahN;clear ahN;repeat first|refine fS ?_|refine ea ?_
  refine kr 13 (r c dV) t8 ?_;refine fc ?_;clear ax dm dz sW cO qj CB;have azr:¬(W.length:Int)=0:=bI Aw.o.2;have pt:∀y:Int,0<=y->∃(j lA:Nat) (b off:Nat),y.tmod (W.length:Int)=j/\j<W.length/\lA<6/\hasB (decide (0<(k:Int))) (!(q==0)) lA=true/\a=A (B b off)/\∀u,ae gY u->u.cell? (B b (off+j))=A (r c lA):=λy az=>by
   have hlen:=Aw.o.2.1;obtain⟨j,h1,h2⟩:=rem_in (N:=W.length) az rfl G;obtain⟨b,off,e,ah⟩:=l6.o.1.at j h2;have hm:W[j]∈f0 (hasB (decide (0<(k:Int))) (!(q==0))) 6:=by rw[<-Aw.o.1];exact gB h2
   obtain⟨lA,a4,ap,bl⟩:=D6.1 hm;refine⟨j,lA,b,off,h1,h2,ap,bl,e,λu Z=>?_⟩;rw[(Z.cell (zA ah)),ah,a4]
  have Lr:=I pt;clear pt;obtain⟨ku,e0,kC,cx,u4,ahm,WL,hl,pj,d0⟩:=Lr.o f8 fO;cases pj;have ahn:(ku:Int)<W.length:=G;have aho:=ew ku;have i7:=I (show ae gY t8 from aAd.o);have Dc:=d0 _ i7.o;have v1:=(kx.o _ (l6.o.2.2.next' i7.o)).2.1;have ov:=I (Fy (uE.o.1.later (W7.o.1.next' (l6.o.2.1.next' i7.o))) WL (H4 hl) Ly Lz 2);clear d0;go_wp2_with fail;refine ov.o.mono ?_;rintro e cI ⟨p1,mY,aV,p2,mr,bb,aGw,aGx,aGy,rfl,hb⟩;rw[<-EU.o.1,<-EU.o.2];have ahO:=I (i7.o.next' hb);clear ov hb Dc v1 u4 ahm ahn aho i7;have k22:=V.new cI #[r c jf,r c rY,E p1 mY aV,E p2 mr bb] 45 (0,0);have i7:=I (ahO.o.alloc ahO.o.size (an #[r c jf,r c rY,E p1 mY aV,E p2 mr bb] 45));obtain⟨n4,br,qR,dt,wB,azs,WM,aX,oi,d1⟩:=Lr.o h7 fD;cases oi;have ahp:(n4:Int)<W.length:=G;have ahq:=ew n4;have Dc:=d1 _ i7.o;have v2:=(kx.o _ (l6.o.2.2.next' i7.o)).2.2;have ov:=I (Fy (zv.o.1.later (wW.o.2.next' (l6.o.2.1.next' i7.o))) WM (H4 aX) ahL ahM 1);have LM:=I k22;clear d1 k22;go_wp2_with fail;refine ov.o.mono ?_;rintro e dB ⟨e8,th,ch,i6,xK,gR,azt,azu,azv,rfl,hb⟩;rw[cH.o.1.1,cH.o.1.2];have M3:=I (i7.o.next' hb);have LM:=I (LM.o.aq hb);have aAe:=V.new dB #[r c jf,r c rY,E e8 th ch,E i6 xK gR] 45 (0,0);have i7:=I (M3.o.alloc M3.o.size (an #[r c jf,r c rY,E e8 th ch,E i6 xK gR] 45));have LM:=I (LM.o.alloc (an #[r c jf,r c rY,E e8 th ch,E i6 xK gR] 45));obtain⟨rn,a4,azw,RE,rp,azx,WN,a5,wy,d2⟩:=Lr.o (f8+h7) G;cases wy;have ahr:(rn:Int)<W.length:=G;have ahs:=ew rn;have Ka:IntKind.i64.wrap (f8+h7)=f8+h7:=ll _ G G;have Dc:=d2 _ i7.o;have v1:=(kx.o _ (l6.o.2.2.next' i7.o)).2.1;have v2:=(kx.o _ (l6.o.2.2.next' i7.o)).2.2;have ov:=I (Fy (wW.o.1.later (l6.o.2.1.next' i7.o)) WN (H4 a5) ahM ahL 3);go_wp2_with fail;refine ov.o.mono ?_;rintro e hX ⟨rE,vq,gl,ul,ux,kf,azy,azz,azA,rfl,hb⟩;rw[cH.o.2.1,cH.o.2.2];have MD:=I (i7.o.next' hb);have k22:=(LM.o.aq hb).alloc (an #[r c jf,r c rY,E rE vq gl,E ul ux kf] 45);have k24:=(aAe.aq hb).alloc (an #[r c jf,r c rY,E rE vq gl,E ul ux kf] 45);have k26:=V.new hX #[r c jf,r c rY,E rE vq gl,E ul ux kf] 45 (0,0);have vb:=I (eH.o.2.2.2.next' (l6.o.2.2.next' (MD.o.alloc MD.o.size (an #[r c jf,r c rY,E rE vq gl,E ul ux kf] 45))));have c0:=aR k22 0;have afE:=aR k22 1;have VP:=aR k24 0;have afF:=aR k24 1;have ya:=aR k26 0;have PV:=aR k26 1;go_wp2_with fail;go_ret;exact⟨rfl,vb.o⟩
end
section
open Go.RowKit Go.Deep
theorem Rd.aAf (h:Rd aa w 52 cs.toList):∃a b:Int,cs=#[r dA a,r dA b]/\(0<=a/\a<=255)/\0<=b/\b<=255:=by
 have Z:=underlying52;have aw:=(Rd.array Z h).1.trans (show prog.cellsOf 52=2 by kernel_rfl);obtain⟨l⟩:=cs
 match l,aw with
 |[bR,aV],_=>
  have g:∀i R,i<2->[bR,aV][i]? =A R->∃x:Int,R=r dA x/\0<=x/\x<=255:=λi R ag ah=>Lv Mj (Rd.elem (e:=5) Z h i ag bq ah);obtain⟨a,rfl,ha⟩:=g 0 _ G rfl;obtain⟨b,rfl,hb⟩:=g 1 _ G rfl;exact⟨a,b,rfl,ha,hb⟩
theorem moved_rd (bR aV bb:Array ac) (w:O) (h0:Rd aa w 25 bR.toList) (h1:Rd aa w 52 aV.toList) (h2:Rd aa w 26 bb.toList) (hg:HG w):
 aE aa 4 #[aZ bR,aZ aV,aZ bb] w λe D=>e=au (aA true)/\ae w D:=by
 obtain⟨o1,cU,fl,eh,bL,fu,aq,g2,e,hb,a9,ak,tm,k0,qJ⟩:=h0.ahl;obtain⟨a,b,rfl,r1,r2⟩:=h1.aAf;obtain⟨p,q,U,rfl,s1,fX,oM⟩:=h2.WG;rw[e];exact az5 o1 cU fl eh bL fu aq g2 a b p q U w hg hb a9 ak tm k0 qJ ⟨r1,r2⟩ ⟨s1,fX,oM⟩
end
end Go.Proofs.YtnmliebconiefaaGreatDoor
