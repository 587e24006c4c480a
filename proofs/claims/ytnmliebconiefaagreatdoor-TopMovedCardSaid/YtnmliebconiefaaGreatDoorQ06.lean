/- Texts of TopTriangle's and TopMoved's walks, made small by a printer; no conditions. -/
import Derived.Test.YtnmliebconiefaaGreatDoorQ05
open Bool renaming false→ao,true→ad
open Go renaming Addr→cp,Calls→aE,CallsIn→ge,Ending→mA,TypeId→cY,Value→ac,World→O,YieldAt→o4,callFunc→gM,results→gq,undef→dr,wpAnyH→gV
open Go.Ending renaming returned→au
open Go.Fence renaming wide→dY
open Go.IntKind renaming i64→c
open Go.Obj renaming cells→an
open Go.Proofs.Tryz renaming func108→aB8,func202→aB_,func301→aB7,prog→aa,results130→aB4,results72→aB',results74→aB5,results77→aB6
open Go.RowKit renaming Below→bQ,intOf→cu
open Go.Value renaming agg→aZ,bool→aA,int→r,nilFunc→mB,pointer→a6,slice→E,tuple→b8,int→kK,slice→iB
open Go.Value.pointer renaming inj→aKj
open List renaming length→pA,replicate→d5
open Nat renaming reduceAdd→gA,reduceSub→g1
open Option renaming none→T,some→A
open Or renaming inr→hD
namespace Go.Proofs.YtnmliebconiefaaGreatDoor
open Go.RowKit Go.Shelf Go.Proofs.Tryz
set_option linter.all false
set_option maxRecDepth 100000
set_option maxHeartbeats 32000000
def pB:=@Go.RowKit.Below.heap_setCell
def aiP:=@List.getElem_drop
def Mi:=@List.length_drop
def QP:=@Nat.mul_le_mul
def XU:=@Go.OwnFrom.and
def aiO:=@Go.Proofs.Tryz.underlying200
variable {dF s t:Int} {aG:List Bool} {L b0 of pi:List Int} {l:List UInt8} {M N P X aW aY ab af am b b' bE bk bn bs dk du fe i m many n p q:Nat} {D Q W ai bH w:O} {g:Raw} {cB cy:ac}
def arL (am:Nat) (bH:O) (cl:Int) (e:mA) (D:O):Prop:=∃cV iY cF a8 bt bp,e=au (aZ #[r c cl,E cV iY cF,E a8 bt bp])/\bQ am bH D
theorem Hj.heap {kU:Nat} (h:Hj bH am g s t aG pi cB cy q af p ab N aW bs aY bn fe kU w):w.cell? (B q 1)=A (J p 0)/\Ow w aY=kU/\bQ am bH w:=by
 obtain⟨bo,a7,L,de,aS,bL,aD,C,h1,_,_,_,_,_,gu,_⟩:=h;exact⟨h1.ij.aH.cell 1,by rw[apQ h1.ij.qz,gu],h1.below⟩
theorem vD.cl {kU x:Nat} {v d:Int} (h:vD bH am g s t aG pi cB cy q af p ab N aW bs aY bn fe kU x v d w):c1 (fa g.arcs (kj g aG pi)) s v=d:=by
 obtain⟨bo,a7,L,de,aS,bL,aD,C,h1,ap,bl,_⟩:=h;exact sl bl
theorem ads {bo:ac} {a7:Nat->Prop} {L:List bw} {de aS:List Int} {bL:List Bool} {aD:Nat} (h:pW bH am s t cB cy w q af p ab N aW bs aY bn bo a7 L de aS bL aD) (dC:am<=fe) (o2:V w fe #[r c 0,E T 0 0,E T 0 0] 202 (0,0)/\¬a7 fe):∃a8 bt bp,bo=E a8 bt bp/\w.cell? (B q 7)=A (E a8 bt bp)/\(∀i,w.frozen? (B fe i)=ao)/\w.cell? (B fe 0)=A (r c 0)/\w.cell? (B fe 1)=A (E T 0 0)/\w.cell? (B fe 2)=A (E T 0 0)/\
 ∀(x y z:ac),(((w.setCell (B fe 0) x).setCell (B fe 1) y).setCell (B fe 2) z).cell? (B fe 0)=A x/\(((w.setCell (B fe 0) x).setCell (B fe 1) y).setCell (B fe 2) z).cell? (B fe 1)=A y/\(((w.setCell (B fe 0) x).setCell (B fe 1) y).setCell (B fe 2) z).cell? (B fe 2)=A z/\bQ am bH (((w.setCell (B fe 0) x).setCell (B fe 1) y).setCell (B fe 2) z):=by
 obtain⟨b7,J'⟩:=h.ij.kM;obtain⟨aN,eu,dw,rfl⟩:∃a n R,bo=E a n R:=by
  obtain⟨_,r2⟩:=J';rcases r2 with⟨e,_⟩|⟨g,R,cur,e,_⟩
  ·exact⟨_,_,_,e⟩
  ·exact⟨_,_,_,e⟩
 refine⟨aN,eu,dw,rfl,h.ij.aH.cell 7,λi=>o2.1.free i (.inr (cQ _)),o2.1.cell 0,o2.1.cell 1,o2.1.cell 2,λx y z=>?_⟩;have k:=((o2.1.set 0 x).set 1 y).set 2 z;exact⟨k.cell 0,k.cell 1,k.cell 2,((h.below.setCell (p:=B fe 0) dC _).setCell (p:=B fe 1) dC _).setCell (p:=B fe 2) dC _⟩
theorem arM (ah:rf bH am af g N s t aG pi cB cy) {a7:Nat->Prop} (h:pW bH am s t cB cy w q af p ab N aW bs aY bn (E T 0 0) a7 [] (d5 N 0) (d5 N (-1)) (d5 N ao) 0):
 aE aa 130 #[J q 0,r c s,r c t] w λe D=>arL am bH (c1 (fa g.arcs (kj g aG pi)) s t) e D:=by
 obtain⟨fe,o2⟩:=al w.heap.size;obtain⟨ay,bA⟩:=al (w.alloc (an #[r c 0,E T 0 0,E T 0 0] 202));have aX:=dx bA;have cd:=eK bA o2;have dC:am<=fe:=by rw[o2];exact h.lo_le
 have aB:=ah.y5;have ht:=ah.EE;obtain⟨i,ag⟩:∃i:Nat,s=(i:Int):=⟨s.toNat,G⟩;obtain⟨j,av⟩:∃j:Nat,t=(j:Int):=⟨t.toNat,G⟩;obtain⟨cl,iR⟩:=al (c1 (fa g.arcs (kj g aG pi)) s t);have cj:=I (arK (fe:=fe) ah (h.more aX) cd (λhf=>by have:=h.ij.heap.lt hf;omega) ag);have x1:=I iR;have cX:=I bA;have arN:=I o2;rw[<-iR];subst ag;subst av;clear iR bA o2;go_in;go_wp2_with fail;rw[<-cX.o,<-arN.o];refine dl cj.o λaJ hst=>?_;go_wp2_with fail;go_loopw [7] (λ_ wr=>∃kU,aM (Hj bH am g (i:Int) (j:Int) aG pi cB cy q af p ab N aW bs aY bn fe kU wr)) (λ_ wr=>Ow wr aY)
 ·exact⟨_,I hst.choose_spec⟩
 ·obtain⟨kU,cW⟩:=hrel;have aV:=cW.o.heap.1;obtain⟨v,key,b,JO⟩:=apS ah cW.o;go_wp2_with fail;refine dl JO λba hb=>?_;rcases hb with⟨rfl,aP⟩|⟨rfl,bo,hi,L,de,aS,bL,aD,bS,hf,o2⟩
  ·obtain⟨v,rfl⟩:=aP.nat;obtain⟨oU,od,⟨z,wC⟩,AM,d,mh⟩:=aP.close;obtain⟨wc,mI⟩:=al (ba.setCell (B aY v) (aA ad));rw[<-mI] at mh;obtain⟨aN,eu,dw,wM,a4,Ml,oe,hT,ES⟩:=mh.cells G;have bC:aM (∀u,ae wc u->u.cell? (B q 7)=A (E aN eu dw)/\u.cell? (B q 2)=A (E (A (B aW 0)) N N)/\u.cell? (B aW v)=A (r c d)):=λu Z=>⟨(Z.cell (p:=B q 7) oe).trans wM,(Z.cell (p:=B q 2) oe).trans a4,(Z.cell (p:=B aW v) hT).trans Ml⟩;have z1:=I mI;have arO:=I cW.o.heap.2.1;have wH:(v:Int)<N:=G;have q9:=ew v;have sq:=ah.dR.jo;clear mI;go_wp2_with fail;rw[<-z1.o];refine jQ (λD=>D.cell? (B q 7)=A (E aN eu dw)/\D.cell? (B q 2)=A (E (A (B aW 0)) N N)/\D.cell? (B aW v)=A (r c d)) 15 rfl ?_;change ej _ _ _ _ _ _ _ 19 _ _ wc.drew;obtain⟨et,dm⟩:=al wc.drew;have aL:=I (show ae wc et by rw[dm];exact(bx _ _).drew);rw[<-dm];clear dm;refine ct 0 (J q 0) (λ_=>bC.o _ aL.o) ?_;refine ct 1 (J q 0) (λ_=>bC.o _ aL.o) ?_;refine ct 2 (J q 0) (λ_=>bC.o _ aL.o) ?_;refine ct 3 (J q 7) (λ_=>bC.o _ aL.o) ?_;refine lH 4 (E aN eu dw) (bC.o _ aL.o) ?_;refine ct 5 (r c v) (λ_=>bC.o _ aL.o) ?_;refine ct 6 (J q 0) (λ_=>bC.o _ aL.o) ?_;refine ct 7 (J q 0) (λ_=>bC.o _ aL.o) ?_;refine ct 8 (J q 2) (λ_=>bC.o _ aL.o) ?_;refine r8 9 (E (A (B aW 0)) N N) [11,12,13,14,15] (cb:=bC.o _ aL.o) (h:=?_);simp only[bN,bM,bO];refine ct 10 (r c v) (λ_=>bC.o _ aL.o) ?_;refine ct 11 (J aW v) (λ_=>bC.o _ aL.o) ?_;refine r8 12 (r c d) [13,14,15] (cb:=bC.o _ aL.o) (h:=?_);simp only[bN,bM,bO];refine ct 13 (aZ #[r c 0,r c 0,r c v,r c d]) (λ_=>bC.o _ aL.o) ?_;refine Bl ?_;intro H fH be b3;suffices SF:∀(u:O) (ka:Nat),aM (ae wc u)->aM (V u ka #[r c 0,r c 0,r c v,r c d] 310)->H 4 #[ad,ad,ad,ad,ad,ad,ad,ad,ad,ad,ad,ad,ad,ad,ad,ao,ao,ao,ao] {tmps:=(be.setIfInBounds 50 (E (A (B ka 0)) 1 1)),defers:=[]} u from by
    have ta:∀(u:O),aM (ae wc u)->H 5 #[ad,ad,ad,ad,ad,ad,ad,ad,ad,ad,ad,ad,ad,ad,ao,ao,ao,ao,ao] {tmps:=be,defers:=[]} u:=by
     intro u aL;rw[fH,b3];refine dJ 14 ?_;have hb:ae u (u.alloc (an #[r c 0,r c 0,r c v,r c d] 310)):=fb;have hf:V (u.alloc (an #[r c 0,r c 0,r c v,r c d] 310)) u.heap.size #[r c 0,r c 0,r c v,r c d] 310:=V.new _ _ _ _;refine gD (E (A (B u.heap.size 0)) 1 1) (u.alloc (an #[r c 0,r c 0,r c v,r c d] 310)) ?_;have kI:=aL;have aL:aM (ae wc (u.alloc (an #[r c 0,r c 0,r c v,r c d] 310))):=I (kI.o.trans (hb.mono kI.o.size));refine⟨λ_=>bC.o _ aL.o,?_⟩;simp only[bN,bM,bO];have q:=SF _ u.heap.size aL (I hf);rw[fH,b3] at q;simp only[bN,bM,bO] at q⊢;exact q
    exact ta et aL
   intro u ka aL B8;rw[fH,b3];simp only[bN,bM,bO];obtain⟨a,m,R,D,hE,⟨xO,F0⟩,xe,x2⟩:=ES u ka _ _ _ _ (λx ak=>by simp only[gg,iS,or_false] at ak;rcases ak with rfl|rfl|rfl|rfl<;>rfl) aL.o B8.o;obtain⟨cG,fq⟩:=al (D.setCell (B q 7) (E a m R));rw[<-fq] at x2;refine dJ 15 ?_;refine tP (ca:=E a m R) (D:=D) rfl rfl rfl (by rfl) (.tmp 40) (.tmp 50) _ _ rfl hE ?_;refine⟨gj,?_⟩;simp only[bN,bM,bO];refine ct 16 (J q 0) gj ?_;refine ct 17 (J q 7) gj ?_;refine dJ 18 ?_;refine lG cG ?_ (he:=by rw[fq];go_simp);clear fq;refine⟨gj,?_⟩;refine fc ?_;by_cases arP:v=j
   ·subst arP;have uW:=I (arI q v cG);obtain⟨gY,y'⟩:=al ((cG.alloc (an #[J q 0] 209)).alloc (an #[r c v] 3));have arQ:=I (x2.path ah y');have Uz:=I y';clear y';go_wp2_with fail;refine dl uW.o λeM aO=>?_;rw[<-Uz.o] at aO;subst eM;go_wp2_with fail;refine arQ.o.mono ?_;rintro e sC ⟨cV,iY,cF,rfl,_,arR⟩;go_wp2_with fail;refine dl arR λiv vr=>?_;have adt:=x2.more vr;obtain⟨a8,bt,bp,wM,a4,Ml,oe,hT,_⟩:=adt.cells G;have bC:aM (∀u,ae iv u->u.cell? (B q 7)=A (E a8 bt bp)/\u.cell? (B q 2)=A (E (A (B aW 0)) N N)/\u.cell? (B aW v)=A (r c d)):=λu Z=>⟨(Z.cell (p:=B q 7) oe).trans wM,(Z.cell (p:=B q 2) oe).trans a4,(Z.cell (p:=B aW v) hT).trans Ml⟩;go_wp2_with fail;refine jQ (λD=>D.cell? (B q 7)=A (E a8 bt bp)/\D.cell? (B q 2)=A (E (A (B aW 0)) N N)/\D.cell? (B aW v)=A (r c d)) 13 rfl ?_;change ej _ _ _ _ _ _ _ 14 _ _ iv.drew;obtain⟨et,dm⟩:=al iv.drew;have aL:=I (show ae iv et by rw[dm];exact(bx _ _).drew);rw[<-dm];clear dm;refine ct 0 (J q 0) (λ_=>bC.o _ aL.o) ?_;refine ct 1 (J q 0) (λ_=>bC.o _ aL.o) ?_;refine ct 2 (J q 2) (λ_=>bC.o _ aL.o) ?_;refine lH 3 (E (A (B aW 0)) N N) (bC.o _ aL.o) ?_;refine ct 4 (r c v) (λ_=>bC.o _ aL.o) ?_;refine ct 5 (J aW v) (λ_=>bC.o _ aL.o) ?_;refine lH 6 (r c d) (bC.o _ aL.o) ?_;refine ct 7 (E cV iY cF) (λ_=>bC.o _ aL.o) ?_;refine ct 8 (J q 0) (λ_=>bC.o _ aL.o) ?_;refine ct 9 (J q 0) (λ_=>bC.o _ aL.o) ?_;refine ct 10 (J q 7) (λ_=>bC.o _ aL.o) ?_;refine lH 11 (E a8 bt bp) (bC.o _ aL.o) ?_;refine ct 12 (aZ #[r c d,E cV iY cF,E a8 bt bp]) (λ_=>bC.o _ aL.o) ?_;have adu:=adt.more aL.o;have iR:=adu.cl;obtain⟨bo,hi,L,de,aS,bL,aD,C,bS,_,_,_,_,_,_,_,_,o2⟩:=adu;obtain⟨aD0,aD1,aD2,rfl,F0,AM,r0,r1,r2,is⟩:=ads bS dC o2;obtain⟨eo,iz⟩:=al (((et.setCell (B fe 0) (r c d)).setCell (B fe 1) (E cV iY cF)).setCell (B fe 2) (E a8 bt bp));have adv:=is (r c d) (E cV iY cF) (E a8 bt bp);rw[<-iz] at adv;have j5:=AM 0;have f6:=AM 1;have eF:=AM 2;refine dJ 13 ?_;refine lG eo ?_ (he:=by rw[iz];go_simp);have cH:=db iR adv;clear iR o2 iz;refine⟨gj,?_⟩;refine fc ?_;go_wp2_with fail;refine gh (v:=aZ #[r c d,E cV iY cF,E a8 bt bp]) (by have e0:=cH.o.2.1;have br:=cH.o.2.2.1;have a4:=cH.o.2.2.2.1;simp[gq,aB4,go_sem,e0,br,a4]) rfl ?_;exact⟨cV,iY,cF,a8,bt,bp,by rw[x1.o,cH.o.1],cH.o.2.2.2.2⟩
   ·have b9:(v:Int)≠j:=G;have oJ:=I (x2.scan ah b9);go_wp2_with fail;refine oJ.o.mono ?_;rintro e gY ⟨rfl,Ox,a0,cf⟩;have Hw:=cf.heap.2.1;have cW:=I cf;go_wp2_with fail;go_roundw
    ·exact⟨Ox,cW⟩
    ·rw[Hw,arO.o];exact a0
  ·obtain⟨a8,bt,bp,rfl,F0,AM,r0,r1,r2,is⟩:=ads bS dC o2;have cH:=db hf (is (r c 72057594037927936) (E T 0 0) (E a8 bt bp));have j5:=AM 0;have f6:=AM 1;have eF:=AM 2;clear o2;go_wp2_with fail;refine gh (v:=aZ #[r c 72057594037927936,E T 0 0,E a8 bt bp]) (by have e0:=cH.o.2.1;have br:=cH.o.2.2.1;have a4:=cH.o.2.2.2.1;simp[gq,aB4,go_sem,e0,br,a4]) rfl ?_;exact⟨T,0,0,a8,bt,bp,by rw[x1.o,cH.o.1],cH.o.2.2.2.2⟩
theorem adw (n:Nat) (aC:n<=16777216) (w:O):aE aa 162 #[r c n] w λe D=>∃p ab,e=au (J p 0)/\i8 (λk=>k=p\/k=ab) D p ab n []/\w.heap.size<=p/\w.heap.size<=ab/\ae w D:=by
 refine(aav n aC w).mono ?_;rintro e D ⟨p,ab,rfl,cf,⟨h1,h2⟩,hb⟩;refine⟨p,ab,rfl,⟨_,cf,λj h0 av=>by simp at av,λk K=>?_,λk K=>?_⟩,h1,h2,hb⟩
 ·rcases K with e|e|e
  ·exact .inl e
  ·exact .inr e
  ·cases e
 ·rcases K with e|e
  ·subst e;exact cf.aH.lt
  ·subst e;exact cf.lt (.inr (.inl rfl))
theorem i8.ne {F:Nat->Prop} {n:Int} {L:List bw} (h:i8 F w p ab n L) {cs:Array ac} {t:cY} {fr:Nat×Nat} (hb:V w b cs t fr) (ht:t≠356):¬(b=p\/b=ab):=by
 obtain⟨v,cf,_⟩:=h;rintro(e|e)
 ·subst e;exact ht (er hb cf.aH)
 ·subst e;obtain⟨aF,⟨eJ,bL,a5,_⟩,_⟩:=cf.map;rw[show w.heap[b]? =_ from hb] at a5;cases a5
theorem arS:(prog.info? 4).map (λi=>(i.zero,i.size,i.bytes))=A (A (aA ao),1,1):=bq
theorem UA (n:Nat) (aC:n<=281474976710656) (u:O):(Instr.makeSlice 186 (r c n) (r c n)).run aa u= .ok (E (A (B u.heap.size 0)) n n) (u.alloc (an (iL (d5 n ao)) 4)):=by
 obtain⟨eP,ag,fL,gi,gt⟩:=m6 arS;have h:=W9 (P:=aa) u 186 4 eP (aA ao) underlying186 ag fL c c (n:Int) (n:Int) G (rZ _) (by rw[gt];omega) G;have a4:madeCells #[Value.bool ao] n=iL (d5 n ao):=by
  apply FD;rw[Xa];simp[iL]
 simpa [gi,Value.cells,a4] using h
def adx (w:O) (af N:Nat) (c0 cI cB cy:ac) (e:mA) (D:O):Prop:=
 ∃q p ab aW bs aY bn a7,e=au (J q 0)/\kT D q af p ab N aW bs aY bn (E T 0 0) a7 [] (d5 N 0) (d5 N (-1)) (d5 N ao) 0/\
  V D bn #[c0,cI,cB,cy] 206 (0,0)/\¬a7 bn/\(∀k,re q aW bs aY (E T 0 0) a7 k->w.heap.size<=k)/\ae w D
theorem arT (b1:(N:Int)=g.nodes) (sq:N<=12) (dE:eq w af g) (s t:Int) (eG:Option cp) (fn ix:Nat) (cV:Option cp) (iY cF:Nat):
 aE aa 129 #[J af 0,aZ #[r c s,r c t,E eG fn ix,E cV iY cF]] w λe D=>adx w af N (r c s) (r c t) (E eG fn ix) (E cV iY cF) e D:=by
 obtain⟨bn,CE⟩:=al w.heap.size;obtain⟨ay,bA⟩:=al (w.alloc (an #[r c s,r c t,E eG fn ix,E cV iY cF] 206));have aX:=dx bA;have nZ:=eK bA CE;have gn:aM (∀u,ae ay u->aE aa 27 #[J af 0] u λe D=>e=au (r c N)/\D=u):=λu Z=>by
  rw[b1];exact l3 af g u (dE.a_ (bu.bg (aX.next' Z)))
 have ady:=I (ys (P:=aa) 28 2 c 8 v5 NM N G G);have DX:=I (UA N G);have bC:aM (∀u,ae ay u->True):=λ_ _=>trivial;have dN:=db aX nZ;have cX:=I bA;have arU:=I CE;clear dE aX nZ bA b1;have g_:=@hJ aa;go_in;go_wp2_with fail;rw[<-cX.o,<-CE];refine pF 10 bC.o λdV dz ax=>?_;have jW:=I dz;clear dz;repeat first|refine fS ?_|refine ea ?_
 clear ax;refine yI [2,3,5,6,8,9] (λoA gy tu hh u=>match oA with
  |2=>gy=r c N
  |3=>∃(p:Nat) (ab:Nat),gy=a6 (A ⟨p,0,T⟩)/\(i8 (λk=>k=p\/k=ab) u p ab N []/\ay.heap.size<=p/\ay.heap.size<=ab)
  |5=>gy=r c N
  |6=>∃(aW:Nat),gy=E (A ⟨aW,0,T⟩) N N/\(V u aW (c6 c (d5 N 0)) 2 (0,0)/\ay.heap.size<=aW)
  |8=>gy=r c N
  |9=>∃(aY:Nat),gy=E (A ⟨aY,0,T⟩) N N/\(V u aY (iL (d5 N ao)) 4 (0,0)/\ay.heap.size<=aY)
  |_=>True) (eF:=3) ?_ (λD bU=>bC.o _ (jW.o.next' bU)) ?_ (λdZ jZ ia u hb dK mR=>?_)
 ·intro oA gy tu hh iV j' ah hb _;try dsimp only at ah⊢
  split at ah
  ·exact ah
  ·obtain⟨p,ab,e,OO⟩:=ah;exact⟨p,ab,e,⟨OO.1.below hb,OO.2⟩⟩
  ·exact ah
  ·obtain⟨aW,e,OP⟩:=ah;exact⟨aW,e,⟨OP.1.aq hb,OP.2⟩⟩
  ·exact ah
  ·obtain⟨aY,e,tv⟩:=ah;exact⟨aY,e,⟨tv.1.aq hb,tv.2⟩⟩
  ·trivial
 ·intro dO ag fj dZ jZ ia hH u hp fP hF;simp only[gg,iS,or_false] at ag;have aL:=I (jW.o.next' hF.below);rcases ag with rfl|rfl|rfl|rfl|rfl|rfl
  ·have X2:hH[7]? =A (J af 0):=hF.base fP 7;refine e3 27 #[J af 0] (gn.o u aL.o) ?_;rintro e cz ⟨rfl,rfl⟩;refine⟨_,rfl,?_⟩;have hb:ae cz cz:=bx _ _;have hf:True:=trivial;exact⟨_,rfl,hb,rfl⟩
  ·obtain⟨Mm,x3,_⟩:=hF.jV hp 2 8;rw[show dZ 2=_ from x3] at Mm;refine e3 162 #[r c N] (adw N G u) ?_;rintro e cz ⟨p,ab,rfl,fH,q5,pS,hb⟩;refine⟨_,rfl,?_⟩;have hf:(i8 (λk=>k=p\/k=ab) cz p ab N []/\ay.heap.size<=p/\ay.heap.size<=ab):=⟨fH,cM aL.o.size q5,cM aL.o.size pS⟩;exact⟨_,rfl,hb,p,ab,rfl,hf⟩
  ·have t10:hH[10]? =A (J af 0):=hF.base fP 10;refine e3 27 #[J af 0] (gn.o u aL.o) ?_;rintro e cz ⟨rfl,rfl⟩;refine⟨_,rfl,?_⟩;have hb:ae cz cz:=bx _ _;have hf:True:=trivial;exact⟨_,rfl,hb,rfl⟩
  ·obtain⟨t11,vH,_⟩:=hF.jV hp 5 11;rw[show dZ 5=_ from vH] at t11;have hb:ae u (u.alloc (an (c6 c (d5 N 0)) 2)):=fb;have hf:V (u.alloc (an (c6 c (d5 N 0)) 2)) u.heap.size (c6 c (d5 N 0)) 2 (0,0)/\ay.heap.size<=u.heap.size:=⟨V.new _ _ _ _,aL.o.size⟩;refine gD (E (A (B u.heap.size 0)) N N) (u.alloc (an (c6 c (d5 N 0)) 2)) ?_ (he:=by have Kd:=ady.o u;go_simp);exact⟨_,rfl,hb,_,rfl,hf⟩
  ·have t13:hH[13]? =A (J af 0):=hF.base fP 13;refine e3 27 #[J af 0] (gn.o u aL.o) ?_;rintro e cz ⟨rfl,rfl⟩;refine⟨_,rfl,?_⟩;have hb:ae cz cz:=bx _ _;have hf:True:=trivial;exact⟨_,rfl,hb,rfl⟩
  ·obtain⟨t14,wT,_⟩:=hF.jV hp 8 14;rw[show dZ 8=_ from wT] at t14;have hb:ae u (u.alloc (an (iL (d5 N ao)) 4)):=fb;have hf:V (u.alloc (an (iL (d5 N ao)) 4)) u.heap.size (iL (d5 N ao)) 4 (0,0)/\ay.heap.size<=u.heap.size:=⟨V.new _ _ _ _,aL.o.size⟩;refine gD (E (A (B u.heap.size 0)) N N) (u.alloc (an (iL (d5 N ao)) 4)) ?_ (he:=by have Kd:=DX.o u;go_simp);exact⟨_,rfl,hb,_,rfl,hf⟩
 have a4:dZ 2=_:=(dK 2 a3).1;obtain⟨⟨p,ab,en,OO⟩,_⟩:=dK 3 a3;have sb:dZ 5=_:=(dK 5 a3).1;obtain⟨⟨aW,y9,OP⟩,_⟩:=dK 6 a3;have x3:dZ 8=_:=(dK 8 a3).1;obtain⟨⟨aY,om,tv⟩,_⟩:=dK 9 a3;rw[a4,en,sb,y9,x3,om];have aL:=I (jW.o.next' hb);have UB:=I trivial;have AN:=I trivial;have Ks:=I trivial;have adz:=I OO;have CF:=I OP;have adA:=I tv;clear jW hb dK mR a4 en sb y9 x3 om;have dM:=jU aL.o adz.o CF.o adA.o;clear aL adz CF adA UB AN Ks ady DX bC;refine kr 10 (aZ #[J af 0,J p 0,E (A (B aW 0)) N N,E T 0 0,E (A (B aY 0)) N N,mB,mB,E T 0 0]) u ?_;obtain⟨q,aO⟩:=al u.heap.size;obtain⟨aJ,cK⟩:=al (u.alloc (an #[J af 0,J p 0,E (A (B aW 0)) N N,E T 0 0,E (A (B aY 0)) N N,mB,mB,E T 0 0] 307));refine kr 11 (J q 0) aJ ?_ (he:=by rw[cK,aO];go_simp);refine kr 12 (J q 0) aJ ?_;refine fc ?_;have AO:=dx cK;have Hx:=eK cK aO;obtain⟨ba,cg⟩:=al (aJ.alloc (an #[r c (-1)] 3));obtain⟨e1,qg⟩:=al aJ.heap.size;have OQ:=dx cg;have adB:=eK cg qg;have nd:ae ay ba:=dM.o.1.next' (AO.next' OQ);have c9:=I (gn.o ba nd);have adC:=I (aa6 (-1) N sq e1 ba (adB.cell 0));have hz:=jU (AO.next' OQ) (Hx.aq OQ) nd (show u.heap.size<=q by omega);have h4:=I cg;have tc:=I qg;clear AO Hx cg qg OQ adB nd gn cK aO;go_wp2_with fail;rw[<-h4.o,<-tc.o];refine dl c9.o λeM aO=>?_;subst eM;clear c9 h4 tc;go_wp2_with fail;refine adC.o.mono ?_;rintro e bi ⟨bs,rfl,Hy,pL,c_⟩;have x4:=hz.o.2.1.aq c_;have ch:=aR x4 3;have gl:=aR x4 5;have kf:=aR x4 6;have gx:=jw x4;have f3:=gx 3;have QS:=gx 5;have X1:=gx 6;have i9:=jU Hy pL c_ x4;clear gx Hy pL c_ x4 adC;go_wp2_with fail;go_ret;obtain⟨rS,⟨fH,q5,pS⟩,⟨z3,aw⟩,Cw,mh⟩:=dM.o;obtain⟨kW,aD3,nd,arV⟩:=hz.o;obtain⟨Hy,pL,c_,x4⟩:=i9.o;have za:ae u bi:=kW.next' c_;have UC:=z3.aq za;have UD:=Cw.aq za;have ET:=fH.below za;have Hz:=(dN.o.2.aq rS);have Hz:=Hz.aq za;rw[CE] at Hz;have b9:∀(x y z:ac) (k:Nat),k≠q->(((bi.setCell (B q 3) x).setCell (B q 5) y).setCell (B q 6) z).heap[k]? =bi.heap[k]? :=λx y z k K=>by
  rw[d7 _ _ _ _ K,d7 _ _ _ _ K,d7 _ _ _ _ K]
 have ol:∀{b:Nat} {cs:Array ac} {t:cY} {fr:Nat×Nat},V bi b cs t fr->t≠307->b≠q:=λ{b cs t fr} hb ht e=>by
  subst e;exact ht (er hb x4)
 have g4:=dN.o.1.size;have ud:w.heap.size<=bn:=tM arU.o.symm;have aD4:=nd.size;have UE:=rS.size;refine⟨q,p,ab,aW,bs,aY,w.heap.size,_,rfl,⟨((x4.set 3 _).set 5 _).set 6 _,ET.dy a3 (λk K=>b9 _ _ _ k λe=>ET.ne x4 bj (e▸K)),(b9 _ _ _ _ (ol UC bj)).trans UC,a3,(b9 _ _ _ _ (ol Hy bj)).trans Hy,a3,(b9 _ _ _ _ (ol UD bj)).trans UD,a3,⟨[],oG _ _ _ _⟩,⟨ET.ne x4 bj,ET.ne UC bj,ET.ne Hy bj,ET.ne UD bj,λk K=>by cases K⟩,sq⟩,(b9 _ _ _ _ (ol Hz bj)).trans Hz,ET.ne Hz bj,λk K=>?_,?_⟩
 ·rcases K with(e|e)|e|e|e|e|e
  ·omega
  ·omega
  ·omega
  ·omega
  ·omega
  ·omega
  ·cases e
 ·exact((((dN.o.1.next' rS).next' za).setCell (p:=B q 3) (by show w.heap.size<=q;omega) _).setCell (p:=B q 5) (by show w.heap.size<=q;omega) _).setCell (p:=B q 6) (by show w.heap.size<=q;omega) _
theorem arW (hm:m=0\/m=n) (aw:m<=1000000) (a:Option cp) (R:Nat) (w:O):aE aa 127 #[E a m R,r c n] w λe D=>e=au (aA ad)/\D=w:=by
 by_cases h0:m=0
 ·subst h0;go_in;go_wp2_with fail;go_ret;exact⟨rfl,rfl⟩
 ·obtain rfl:m=n:=G;have Kb:(m:Int)≠0:=G;go_in;go_wp2_with fail;go_ret;refine⟨?_,rfl⟩;first|rfl|(simp[Kb])
theorem arX (hm:m=0\/m=n) (aw:m<=1000000) (a:Option cp) (R:Nat) (w:O):aE aa 128 #[E a m R,r c n] w λe D=>e=au (aA ad)/\D=w:=by
 by_cases h0:m=0
 ·subst h0;go_in;go_wp2_with fail;go_ret;exact⟨rfl,rfl⟩
 ·obtain rfl:m=n:=G;have Kb:(m:Int)≠0:=G;go_in;go_wp2_with fail;go_ret;refine⟨?_,rfl⟩;first|rfl|(simp[Kb])
theorem arY {a':Nat} (b1:(N:Int)=g.nodes) (hb:V w a' #[J af 0] 62) (dE:eq w af g) (x:Int) (ak:0<=x/\x<N):aE aa 126 #[r c x,J a' 0] w λe D=>e=au (aA ad)/\D=w:=by
 have gn:=I (l3 af g w dE);have bR:=aR hb 0;obtain⟨h0,h1⟩:=ak;rw[b1] at h1;go_in;go_wp2_with fail;refine eO gn.o ?_;go_wp2_with fail;go_ret;exact⟨rfl,rfl⟩
theorem rf.later {aJ:O} (h:rf w w.heap.size af g N s t aG pi cB cy) (hb:ae w aJ):rf aJ aJ.heap.size af g N s t aG pi cB cy:=
 ⟨h.dR,h.kS.a_ (bu.bg hb),h.Ol.a_ (bu.bg hb),h.Om.a_ (bu.bg hb),h.TR,h.J7,h.pos,rfl,h.y5,h.EE,h.t7,h.cl⟩
def HA (w:O) (cl:Int) (e:mA) (D:O):Prop:=∃cV iY cF a8 bt bp,e=au (b8 #[aZ #[r c cl,E cV iY cF,E a8 bt bp],r c 0])/\ae w D
theorem UF {eG:Option cp} {ix:Nat} {cV:Option cp} {cF:Nat} (ah:rf w w.heap.size af g N s t aG pi (E eG aG.length ix) (E cV pi.length cF)):
 aE aa 74 #[J af 0,aZ #[r c s,r c t,E eG aG.length ix,E cV pi.length cF]] w λe D=>HA w (c1 (fa g.arcs (kj g aG pi)) s t) e D:=by
 obtain⟨a',eB⟩:=al w.heap.size;obtain⟨bk,el⟩:=al (a'+1);obtain⟨bh,dW⟩:=al (bk+1);obtain⟨ay,bA⟩:=al (((w.alloc (an #[J af 0] 62)).alloc (an #[r c s,r c t,E eG aG.length ix,E cV pi.length cF] 206)).alloc (an #[r c 0,E T 0 0,E T 0 0] 202));have aX:=tW bA;have k2:V ay a' #[J af 0] 62:=by rw[bA,eB];exact((V.new _ _ _ _).alloc _).alloc _
 have k3:V ay bk #[r c s,r c t,E eG aG.length ix,E cV pi.length cF] 206:=by
  have k:=V.new (w.alloc (an #[J af 0] 62)) #[r c s,r c t,E eG aG.length ix,E cV pi.length cF] 206 (0,0);rw[d8] at k;rw[bA,el,eB];exact k.alloc _
 have k4:V ay bh #[r c 0,E T 0 0,E T 0 0] 202:=by
  have k:=V.new ((w.alloc (an #[J af 0] 62)).alloc (an #[r c s,r c t,E eG aG.length ix,E cV pi.length cF] 206)) #[r c 0,E T 0 0,E T 0 0] 202 (0,0);rw[d8,d8] at k;rw[bA,dW,el,eB];exact k
 have b1:=ah.dR.nodes;have m0:aM (∀u,ae ay u->eq u af g):=λu Z=>ah.kS.a_ (bu.bg (aX.next' Z));have pZ:aM (∀u,ae ay u->∀x,0<=x/\x<(N:Int)->aE aa 126 #[r c x,J a' 0] u λe D=>e=au (aA ad)/\D=u):=λu Z x ak=>arY b1 (k2.aq Z) (m0.o u Z) x ak;have rN:aM (∀u,ae ay u->aE aa 63 #[J af 0] u λe D=>e=au (r c (g.arcs.length:Nat))/\D=u):=λu Z=>Hg af g u (m0.o u Z);have gn:aM (∀u,ae ay u->aE aa 27 #[J af 0] u λe D=>e=au (r c N)/\D=u):=λu Z=>by rw[b1];exact l3 af g u (m0.o u Z)
 have Kc:=I ah.TR;have wz:=I ah.J7;have TS:=I ah.y5;have TT:=I ah.EE;have vB:=ah.dR.jo;have acI:=ah.dR.po;have TU:=I (show aG.length<=1000000 from bI Kc.o);have TV:=I (show pi.length<=1000000 from bI wz.o);have cj:aM (∀u,ae ay u->u.cell? (B a' 0)=A (J af 0)/\u.cell? (B bk 0)=A (r c s)/\u.cell? (B bk 1)=A (r c t)/\u.cell? (B bk 2)=A (E eG aG.length ix)/\u.cell? (B bk 3)=A (E cV pi.length cF)):=λu Z=>⟨(k2.aq Z).cell 0,(k3.aq Z).cell 0,(k3.aq Z).cell 1,(k3.aq Z).cell 2,(k3.aq Z).cell 3⟩;have d':=I (show ae ay ay from bx _ _);have cS:=I ah;have cX:=I bA;have bP:=ig eB el dW;have cw:=jU aX k2 k3 k4;have g_:=@hJ aa;have D4:=aR k2 0;rw[bA,eB] at D4;clear bA;go_in;go_wp2_with fail;rw[<-cX.o,<-eB,<-el,<-dW];clear eB el dW;refine jj (S:=λD=>D.cell? (B a' 0)=A (J af 0)/\D.cell? (B bk 0)=A (r c s)/\D.cell? (B bk 1)=A (r c t)/\D.cell? (B bk 2)=A (E eG aG.length ix)/\D.cell? (B bk 3)=A (E cV pi.length cF)) rfl ?_;have ax:=cj.o ay.drew (d'.o.drew);change gV _ _ _ _ _ 29 _ _ ay.drew;have bf:=I (d'.o.drew);refine eZ 0 (.func (.func 126) #[] #[J a' 0]) ax ?_;refine eZ 1 (J bk 0) ax ?_;refine eZ 2 (r c s) ax ?_;refine fs 3 ?_;refine gE 126 (pZ.o ay.drew bf.o s TS.o) ?_;rintro _ _ ⟨⟨rfl⟩,rfl⟩;refine⟨ax,?_⟩;simp only[bN,bM,bO];refine eZ 4 (aA ao) ax ?_;refine eZ 5 (aA ao) ax ?_;refine eZ 6 (.func (.func 126) #[] #[J a' 0]) ax ?_;refine eZ 7 (J bk 1) ax ?_;refine eZ 8 (r c t) ax ?_;refine fs 9 ?_;refine gE 126 (pZ.o ay.drew bf.o t TT.o) ?_;rintro _ _ ⟨⟨rfl⟩,rfl⟩;refine⟨ax,?_⟩;simp only[bN,bM,bO];refine eZ 10 (aA ao) ax ?_;refine eZ 11 (aA ao) ax ?_;refine eZ 12 (aA ao) ax ?_;refine eZ 13 (J bk 2) ax ?_;refine eZ 14 (E eG aG.length ix) ax ?_;refine eZ 15 (J af 0) ax ?_;refine fs 16 ?_;refine gE 63 (rN.o ay.drew bf.o) ?_;rintro _ _ ⟨⟨rfl⟩,rfl⟩;refine⟨ax,?_⟩;simp only[bN,bM,bO];refine fs 17 ?_;refine gE 127 (arW Kc.o TU.o eG ix ay.drew) ?_;rintro _ _ ⟨⟨rfl⟩,rfl⟩;refine⟨ax,?_⟩;simp only[bN,bM,bO];refine eZ 18 (aA ao) ax ?_;refine eZ 19 (aA ao) ax ?_;refine eZ 20 (aA ao) ax ?_;refine eZ 21 (J bk 3) ax ?_;refine eZ 22 (E cV pi.length cF) ax ?_;refine eZ 23 (J af 0) ax ?_;refine fs 24 ?_;refine gE 27 (gn.o ay.drew bf.o) ?_;rintro _ _ ⟨⟨rfl⟩,rfl⟩;refine⟨ax,?_⟩;simp only[bN,bM,bO];refine fs 25 ?_;refine gE 128 (arX wz.o TV.o cV cF ay.drew) ?_;rintro _ _ ⟨⟨rfl⟩,rfl⟩;refine⟨ax,?_⟩;simp only[bN,bM,bO];refine eZ 26 (aA ao) ax ?_;refine eZ 27 (aA ao) ax ?_;refine eZ 28 (aA ao) ax ?_;refine i4 ?_;obtain⟨aJ,cK⟩:=al ay.drew;have a5:ae ay aJ:=by rw[cK];exact(bx _ _).drew
 rw[<-cK] at ax⊢;clear cK;have k4:=cw.o.2.2.2.aq a5;have fU:=aR k4 0;have fO:=aR k4 1;have fD:=aR k4 2;have gx:=jw k4;have j5:=gx 0;have f6:=gx 1;have eF:=gx 2;obtain⟨jI,oL,oK,Sr,aak⟩:=ax;have s2:=I k4;have dT:=I a5;by_cases hst:s=t
 ·subst hst;go_wp2_with fail;have k:=((s2.o.set 0 (r c 0)).set 1 (E T 0 0)).set 2 (E T 0 0);have e0:=k.cell 0;have br:=k.cell 1;have a4:=k.cell 2;refine gh (v:=b8 #[aZ #[r c 0,E T 0 0,E T 0 0],r c 0]) (by simp at e0 br a4;simp[gq,aB5,go_sem,e0,br,a4]) rfl ?_;refine⟨T,0,0,T,0,0,?_,?_⟩
  ·rw[sl (d:=0) ⟨.nil,λd a9=>a9.s8 λa ha=>(cS.o.dR.ok.aS a (y2 a ha)).2.2.1⟩]
  ·have aw:w.heap.size<=bh:=bI bP.o;exact(((cw.o.1.next' dT.o).setCell (p:=B bh 0) aw _).setCell (p:=B bh 1) aw _).setCell (p:=B bh 2) aw _
 ·have bC:aM (∀u,ae aJ u->u.cell? (B a' 0)=A (J af 0)/\u.cell? (B bk 0)=A (r c s)/\u.cell? (B bk 1)=A (r c t)/\u.cell? (B bk 2)=A (E eG aG.length ix)/\u.cell? (B bk 3)=A (E cV pi.length cF)):=λu Z=>cj.o u (dT.o.next' Z);have b1:=cS.o.dR.nodes;have lp:aM (∀u,ae aJ u->aE aa 129 #[J af 0,aZ #[r c s,r c t,E eG aG.length ix,E cV pi.length cF]] u λe D=>adx u af N (r c s) (r c t) (E eG aG.length ix) (E cV pi.length cF) e D):=λu Z=>arT b1 vB (m0.o u (dT.o.next' Z)) s t eG aG.length ix cV pi.length cF;have tb:=I (cS.o.later (cw.o.1.next' dT.o));go_wp2_with fail;refine jQ (λD=>D.cell? (B a' 0)=A (J af 0)/\D.cell? (B bk 0)=A (r c s)/\D.cell? (B bk 1)=A (r c t)/\D.cell? (B bk 2)=A (E eG aG.length ix)/\D.cell? (B bk 3)=A (E cV pi.length cF)) 7 rfl ?_;change ej _ _ _ _ _ _ _ 10 _ _ aJ.drew;obtain⟨et,dm⟩:=al aJ.drew;have aL:=I (show ae aJ et by rw[dm];exact(bx _ _).drew);rw[<-dm];clear dm;refine r8 0 (J af 0) [2,7] (cb:=bC.o _ aL.o) (h:=?_);simp only[bN,bM,bO];refine r8 1 (aZ #[r c s,r c t,E eG aG.length ix,E cV pi.length cF]) [2,7] (cb:=bC.o _ aL.o) (h:=?_);simp only[bN,bM,bO];refine ct 3 (J bk 0) (λ_=>bC.o _ aL.o) ?_;refine lH 4 (r c s) (bC.o _ aL.o) ?_;refine ct 5 (J bk 1) (λ_=>bC.o _ aL.o) ?_;refine lH 6 (r c t) (bC.o _ aL.o) ?_;refine Bl ?_;intro H fH be b3;have dd:=I fH;have eW:=I b3;suffices arZ:∀(u:O) (q:Nat),aM (ae aJ u)->aM (∃p ab aW bs aY bn a7,pW aJ aJ.heap.size s t (E eG aG.length ix) (E cV pi.length cF) u q af p ab N aW bs aY bn (E T 0 0) a7 [] (d5 N 0) (d5 N (-1)) (d5 N ao) 0)->H 3 #[ad,ad,ad,ad,ad,ad,ad,ao,ao,ao] {tmps:=(be.setIfInBounds 51 (J q 0)),defers:=[]} u from by
   have ta:∀(u:O),aM (ae aJ u)->H 4 #[ad,ad,ao,ad,ad,ad,ad,ao,ao,ao] {tmps:=be,defers:=[]} u:=by
    intro u aL;rw[dd.o,eW.o];refine dJ 2 ?_;refine e3 129 #[J af 0,aZ #[r c s,r c t,E eG aG.length ix,E cV pi.length cF]] (lp.o u aL.o) ?_;rintro e cz ⟨q,p,ab,aW,bs,aY,bn,a7,rfl,k1,k2,k3,k4,hb⟩;refine⟨_,rfl,?_⟩;have hf:(∃p ab aW bs aY bn a7,pW aJ aJ.heap.size s t (E eG aG.length ix) (E cV pi.length cF) cz q af p ab N aW bs aY bn (E T 0 0) a7 [] (d5 N 0) (d5 N (-1)) (d5 N ao) 0):=⟨p,ab,aW,bs,aY,bn,a7,k1,k2,k3,aL.o.next' hb,λk K=>cM aL.o.size (k4 k K),cM aL.o.size hb.size⟩;have kI:=aL;have aL:aM (ae aJ cz):=I (kI.o.trans (hb.mono kI.o.size));refine⟨λ_=>bC.o _ aL.o,?_⟩;simp only[bN,bM,bO];have q:=arZ _ q aL (I hf);rw[dd.o,eW.o] at q;simp only[bN,bM,bO] at q⊢;exact q
   exact ta et aL
  intro u q aL UB;rw[dd.o,eW.o];simp only[bN,bM,bO];obtain⟨p,ab,aW,bs,aY,bn,a7,bS⟩:=UB.o;have rC:=I (arM tb.o bS);refine dJ 7 ?_;refine F1 (f:=130) rfl rfl (by rfl) (by go_simp) rC.o (λe iv ar=>?_);obtain⟨c3,c4,c5,a8,bt,bp,rfl,vr⟩:=ar;have k9:=s2.o.aq vr;have fU:=aR k9 0;have fO:=aR k9 1;have fD:=aR k9 2;have gx:=jw k9;have j5:=gx 0;have f6:=gx 1;have eF:=gx 2;obtain⟨cl,iR⟩:=al (c1 (fa g.arcs (kj g aG pi)) s t);rw[<-iR];obtain⟨eo,iz⟩:=al (((iv.setCell (B bh 0) (r c cl)).setCell (B bh 1) (E c3 c4 c5)).setCell (B bh 2) (E a8 bt bp));have k:=((k9.set 0 (r c cl)).set 1 (E c3 c4 c5)).set 2 (E a8 bt bp);have aw:w.heap.size<=bh:=bI bP.o;have lL:ae w eo:=by
   have h0:ae w iv:=(cw.o.1.next' dT.o).next' vr;rw[iz];exact((h0.setCell (p:=B bh 0) aw _).setCell (p:=B bh 1) aw _).setCell (p:=B bh 2) aw _
  refine⟨_,rfl,gj,?_⟩;simp only[bN,bM,bO];refine dJ 8 ?_;refine lG eo ?_ (he:=by rw[iz];go_simp);rw[<-iz] at k;have cH:=ig k lL iR;clear iR iz;refine⟨gj,?_⟩;refine kr 9 (r c 0) eo ?_;refine fc ?_;go_wp2_with fail;have e0:=cH.o.1.cell 0;have br:=cH.o.1.cell 1;have a4:=cH.o.1.cell 2;refine gh (v:=b8 #[aZ #[r c cl,E c3 c4 c5,E a8 bt bp],r c 0]) (by simp at e0 br a4;simp[gq,aB5,go_sem,e0,br,a4]) rfl ?_;exact⟨c3,c4,c5,a8,bt,bp,by rw[cH.o.2.2],cH.o.2.1⟩
theorem ar0 (hb:V w bk #[J af 0] 62):aE aa 225 #[J bk 0] w λe D=>e=au (aA ad)/\D=w:=by
 have bR:=aR hb 0;clear hb;go_in;go_wp2_with fail;go_ret;exact⟨rfl,rfl⟩
theorem adD {rh:Nat} (b1:(N:Int)=g.nodes) (hb:V w bk #[J af 0] 62) (dE:eq w af g) {x:Nat} (ha:V w rh #[r c x] 3) (ak:x<N):aE aa 223 #[J rh 0,J bk 0] w λe D=>e=au (aA ad)/\ae w D:=by
 have gn:aM (∀u,ae w u->aE aa 27 #[J af 0] u λe D=>e=au (r c N)/\D=u):=λu Z=>by rw[b1];exact l3 af g u (dE.a_ (bu.bg Z))
 have cj:aM (∀u,ae w u->u.cell? (B rh 0)=A (r c x)/\u.cell? (B bk 0)=A (J af 0)):=λu Z=>⟨(ha.aq Z).cell 0,(hb.aq Z).cell 0⟩;have d':=I (bx w.heap.size w);have UG:(x:Int)<N:=G;have j7:=ew x;clear dE hb ha ak b1;go_in;go_wp2_with fail;refine jj (S:=λD=>D.cell? (B rh 0)=A (r c x)/\D.cell? (B bk 0)=A (J af 0)) rfl ?_;have ax:=cj.o w.drew (d'.o.drew);change gV _ _ _ _ _ 9 _ _ w.drew;have bf:=I (d'.o.drew);repeat refine fA ?_
 refine fs 5 ?_;refine gE 27 (gn.o w.drew bf.o) ?_;rintro _ _ ⟨⟨rfl⟩,rfl⟩;refine⟨ax,?_⟩;simp only[bN,bM,bO];repeat refine fA ?_
 refine i4 ?_;go_wp2_with fail;go_ret;exact⟨rfl,bf.o⟩
theorem ar1 (x:Int) (bk:Nat) (w:O):aE aa 222 #[r c x,J bk 0] w λe D=>e=au (.func (.func 223) #[] #[J w.heap.size 0,J bk 0])/\D=w.alloc (an #[r c x] 3):=by
 have g_:=@hJ aa;go_in;go_wp2_with fail;go_ret;exact⟨rfl,rfl⟩
theorem ar2 {bh:Nat} (ap:V w bk #[J af 0] 62) (bl:V w bh #[J bE 0] 65) (dE:eq w af g) (h:jq w bE g N b0) (hm:1<=b0.length):
 aE aa 226 #[J bh 0,J bk 0] w λe D=>e=au (aA ad)/\ae w D:=by
 have gn:aM (∀u,ae w u->aE aa 27 #[J af 0] u λe D=>e=au (r c N)/\D=u):=λu Z=>by rw[h.nodes];exact l3 af g u (dE.a_ (bu.bg Z))
 have AK:aM (∀u,ae w u->aE aa 68 #[J bE 0] u λe D=>e=au (r c N)/\ae u D):=λu Z=>(En (h.a_ (bu.bg Z))).mono (by rintro e D ⟨h1,h2⟩;subst h2;exact⟨h1,bx _ _⟩);have cj:aM (∀u,ae w u->u.cell? (B bh 0)=A (J bE 0)/\u.cell? (B bk 0)=A (J af 0)):=λu Z=>⟨(bl.aq Z).cell 0,(ap.aq Z).cell 0⟩;have d':=I (bx w.heap.size w);have ua:b0.length<=16:=h.len;have yC:aM (∀u,ae w u->jq u bE g N b0):=λu Z=>h.a_ (bu.bg Z);obtain⟨n,aC⟩:=al b0.length;have eU:aM (∀u,ae w u->aE aa 69 #[J bE 0] u λe D=>∃a R,e=au (E a n R)/\D.ownsRow u.heap.size 3 1 (E a n R) n (b0.flatMap ec)/\ae u D):=λu Z=>by rw[aC];exact Eo (yC.o u Z)
 rw[<-aC] at hm ua;have lu:(0:Int)<n:=G;have Zq:0<n:=hm;clear ap bl dE h aC yC;go_in;go_wp2_with fail;refine jj (S:=λD=>D.cell? (B bh 0)=A (J bE 0)/\D.cell? (B bk 0)=A (J af 0)) rfl ?_;have ax:=cj.o w.drew (d'.o.drew);change gV _ _ _ _ _ 12 _ _ w.drew;have bf:=I (d'.o.drew);repeat refine fA ?_
 refine fs 1 ?_;refine gE 69 (eU.o w.drew bf.o) ?_ (aP:=by rintro _ _ ⟨_,_,h,_⟩;cases h) (aQ:=by rintro _ ⟨_,_,h,_⟩;cases h);rintro e kw ⟨np,gl,⟨rfl⟩,_,hb⟩;have ef:=I (bf.o.trans (hb.mono bf.o.size))
 replace bf:=ef
 clear ef hb ax;have ax:=cj.o kw bf.o;refine⟨ax,?_⟩;simp only[bN,bM,bO];repeat refine fA ?_
 refine fs 6 ?_;refine gE 68 (AK.o kw bf.o) ?_;rintro e xD ⟨⟨rfl⟩,hb⟩;have ef:=I (bf.o.trans (hb.mono bf.o.size))
 replace bf:=ef
 clear ef hb ax;have ax:=cj.o xD bf.o;refine⟨ax,?_⟩;simp only[bN,bM,bO];refine fs 8 ?_;refine gE 27 (gn.o xD bf.o) ?_;rintro _ _ ⟨⟨rfl⟩,rfl⟩;refine⟨ax,?_⟩;simp only[bN,bM,bO];repeat refine fA ?_
 refine i4 ?_;go_wp2_with fail;go_ret;exact⟨rfl,bf.o⟩
theorem ar3 {bh rh vI:Nat} (hb:V w b #[.func (.func 225) #[] #[J bk 0],r c 1,.func (.func 223) #[] #[J rh 0,J bk 0],r c 17,.func (.func 223) #[] #[J vI 0,J bk 0],r c 18,.func (.func 226) #[] #[J bh 0,J bk 0],r c 19] 324) (h0:∀u,ae w u->aE aa 225 #[J bk 0] u λe D=>e=au (aA ad)/\ae u D) (h1:∀u,ae w u->aE aa 223 #[J rh 0,J bk 0] u λe D=>e=au (aA ad)/\ae u D) (h2:∀u,ae w u->aE aa 223 #[J vI 0,J bk 0] u λe D=>e=au (aA ad)/\ae u D) (ap:∀u,ae w u->aE aa 226 #[J bh 0,J bk 0] u λe D=>e=au (aA ad)/\ae u D):
 aE aa 224 #[E (A (B b 0)) 4 4] w λe D=>e=au (r c 0)/\ae w D:=by
 have cS:aM (∀u,ae w u->u.cell? (B b 0)=A (.func (.func 225) #[] #[J bk 0])/\u.cell? (B b 1)=A (r c 1)/\u.cell? (B b 2)=A (.func (.func 223) #[] #[J rh 0,J bk 0])/\u.cell? (B b 3)=A (r c 17)/\u.cell? (B b 4)=A (.func (.func 223) #[] #[J vI 0,J bk 0])/\u.cell? (B b 5)=A (r c 18)/\u.cell? (B b 6)=A (.func (.func 226) #[] #[J bh 0,J bk 0])/\u.cell? (B b 7)=A (r c 19)):=λu Z=>⟨(hb.aq Z).cell 0,(hb.aq Z).cell 1,(hb.aq Z).cell 2,(hb.aq Z).cell 3,(hb.aq Z).cell 4,(hb.aq Z).cell 5,(hb.aq Z).cell 6,(hb.aq Z).cell 7⟩;have qI:=I (bx w.heap.size w);have hM:=I h0;have gX:=I h1;have fC:=I h2;have hQ:=I ap;clear hb h0 h1 h2 ap;go_in;go_wp2_with fail;go_loopw [7] (λi wr=>∃k:Nat,k<=4/\i=r c k/\aM (ae w wr)) (λi _=>4-(cu i).toNat)
 ·exact⟨0,G,rfl,qI⟩
 ·obtain⟨k,K,rfl,bP⟩:=hrel;obtain⟨bR,aV,bb,ch,gR,gl,kf,lM⟩:=cS.o wr bP.o;obtain rfl|rfl|rfl|rfl|rfl:k=0\/k=1\/k=2\/k=3\/k=4:=G
  ·have eW:=I (show ae wr (wr.alloc (an #[.func (.func 225) #[] #[J bk 0],r c 1] 324)) from fb);have kl:=I (hM.o _ (bP.o.next' eW.o));go_wp2_with fail;refine dl kl.o λay hb=>?_;have c9:=I (bP.o.next' (eW.o.trans (hb.mono eW.o.size)));clear hb kl eW;go_wp2_with fail;go_roundw
   ·exact⟨1,G,rfl,c9⟩
   ·simp[cu]
  ·have eW:=I (show ae wr (wr.alloc (an #[.func (.func 223) #[] #[J rh 0,J bk 0],r c 17] 324)) from fb);have kl:=I (gX.o _ (bP.o.next' eW.o));go_wp2_with fail;refine dl kl.o λay hb=>?_;have c9:=I (bP.o.next' (eW.o.trans (hb.mono eW.o.size)));clear hb kl eW;go_wp2_with fail;go_roundw
   ·exact⟨2,G,rfl,c9⟩
   ·simp[cu]
  ·have eW:=I (show ae wr (wr.alloc (an #[.func (.func 223) #[] #[J vI 0,J bk 0],r c 18] 324)) from fb);have kl:=I (fC.o _ (bP.o.next' eW.o));go_wp2_with fail;refine dl kl.o λay hb=>?_;have c9:=I (bP.o.next' (eW.o.trans (hb.mono eW.o.size)));clear hb kl eW;go_wp2_with fail;go_roundw
   ·exact⟨3,G,rfl,c9⟩
   ·simp[cu]
  ·have eW:=I (show ae wr (wr.alloc (an #[.func (.func 226) #[] #[J bh 0,J bk 0],r c 19] 324)) from fb);have kl:=I (hQ.o _ (bP.o.next' eW.o));go_wp2_with fail;refine dl kl.o λay hb=>?_;have c9:=I (bP.o.next' (eW.o.trans (hb.mono eW.o.size)));clear hb kl eW;go_wp2_with fail;go_roundw
   ·exact⟨4,G,rfl,c9⟩
   ·simp[cu]
  ·go_wp2_with fail;go_ret;exact⟨rfl,bP.o⟩
theorem adE (x:Int) (bk:Nat) (w:O):aE aa 222 #[r c x,J bk 0] w λe D=>∃Q,e=au (.func (.func 223) #[] #[J Q 0,J bk 0])/\V D Q #[r c x] 3 (0,0)/\ae w D:=(ar1 x bk w).mono (by
 rintro e D ⟨h1,h2⟩;subst h2;exact⟨_,h1,V.new _ _ _ _,fb⟩)
theorem ar4 (dE:eq w af g) (h:jq w bE g N b0) (hm:1<=b0.length) {s t:Nat} (aB:s<N) (ht:t<N) (dF cr:Int):
 aE aa 140 #[J af 0,J bE 0,aZ #[r c dF,r c s,r c t,r c cr]] w λe D=>e=au (r c 0)/\ae w D:=by
 obtain⟨bk,el⟩:=al w.heap.size;obtain⟨bh,dW⟩:=al (bk+1);obtain⟨bF,eV⟩:=al (bh+1);obtain⟨ba,cg⟩:=al (((w.alloc (an #[J af 0] 62)).alloc (an #[J bE 0] 65)).alloc (an #[r c dF,r c s,r c t,r c cr] 50));have ck:=tW cg;have k3:V ba bk #[J af 0] 62:=by rw[cg,el];exact((V.new _ _ _ _).alloc _).alloc _
 have k4:V ba bh #[J bE 0] 65:=by
  have k:=V.new (w.alloc (an #[J af 0] 62)) #[J bE 0] 65 (0,0);rw[d8] at k;rw[cg,dW,el];exact k.alloc _
 have k5:V ba bF #[r c dF,r c s,r c t,r c cr] 50:=by
  have k:=V.new ((w.alloc (an #[J af 0] 62)).alloc (an #[J bE 0] 65)) #[r c dF,r c s,r c t,r c cr] 50 (0,0);rw[d8,d8] at k;rw[cg,eV,dW,el];exact k
 have b1:=h.nodes;have m0:aM (∀u,ae ba u->eq u af g):=λu Z=>dE.a_ (bu.bg (ck.next' Z));have wU:aM (∀u,ae ba u->jq u bE g N b0):=λu Z=>h.a_ (bu.bg (ck.next' Z));have pg:aM (∀u,ae ba u->V u bk #[J af 0] 62):=λu Z=>k3.aq Z;have q8:aM (∀u,ae ba u->V u bh #[J bE 0] 65):=λu Z=>k4.aq Z;have oB:aM (∀u,ae ba u->u.cell? (B bF 1)=A (r c s)/\u.cell? (B bF 2)=A (r c t)):=λu Z=>⟨(k5.aq Z).cell 1,(k5.aq Z).cell 2⟩;have dh:=I ck;have ar5:=I aB;have ar6:=I ht;have eU:=I hm;have ON:aM (∀u b rh vI,ae ba u->V u b #[.func (.func 225) #[] #[J bk 0],r c 1,.func (.func 223) #[] #[J rh 0,J bk 0],r c 17,.func (.func 223) #[] #[J vI 0,J bk 0],r c 18,.func (.func 226) #[] #[J bh 0,J bk 0],r c 19] 324 (0,0)->V u rh #[r c s] 3 (0,0)->V u vI #[r c t] 3 (0,0)->aE aa 224 #[E (A (B b 0)) 4 4] u λe D=>e=au (r c 0)/\ae u D):=λu b rh vI Z hb a1 a2=>
  ar3 hb (λv aK=>(ar0 (pg.o v (Z.next' aK))).mono (by rintro e D ⟨h1,h2⟩;subst h2;exact⟨h1,bx _ _⟩))
   (λv aK=>adD b1 (pg.o v (Z.next' aK)) (m0.o v (Z.next' aK)) (a1.aq aK) ar5.o)
   (λv aK=>adD b1 (pg.o v (Z.next' aK)) (m0.o v (Z.next' aK)) (a2.aq aK) ar6.o)
   (λv aK=>ar2 (pg.o v (Z.next' aK)) (q8.o v (Z.next' aK)) (m0.o v (Z.next' aK)) (wU.o v (Z.next' aK)) eU.o)
 have cj:aM (∀u,ae ba u->u.cell? (B bF 1)=A (r c s)/\u.cell? (B bF 2)=A (r c t)):=λu Z=>oB.o u Z;have d':=I (bx ba.heap.size ba);have h4:=I cg;have g_:=@hJ aa;clear dE h hm aB ht b1 cg ck k3 k4 k5;go_in;go_wp2_with fail;rw[<-h4.o,<-el,<-dW,<-eV];clear el dW eV;refine jj (S:=λD=>D.cell? (B bF 1)=A (r c s)/\D.cell? (B bF 2)=A (r c t)) rfl ?_;have ax:=cj.o ba.drew (d'.o.drew);change gV _ _ _ _ _ 17 _ _ ba.drew;have bf:=I (d'.o.drew);refine eZ 0 (.func (.func 225) #[] #[J bk 0]) ax ?_;refine eZ 1 (aZ #[.func (.func 225) #[] #[J bk 0],r c 1]) ax ?_;refine eZ 2 (.func (.func 222) #[] #[J bk 0]) ax ?_;refine eZ 3 (J bF 1) ax ?_;refine eZ 4 (r c s) ax ?_;refine eZ 7 (.func (.func 222) #[] #[J bk 0]) ax ?_;refine eZ 8 (J bF 2) ax ?_;refine eZ 9 (r c t) ax ?_;refine eZ 12 (.func (.func 226) #[] #[J bh 0,J bk 0]) ax ?_;refine eZ 13 (aZ #[.func (.func 226) #[] #[J bh 0,J bk 0],r c 19]) ax ?_;refine fs 5 ?_;refine gE 222 (adE s bk ba.drew) ?_ (aP:=by rintro _ _ ⟨_,h,_⟩;cases h) (aQ:=by rintro _ ⟨_,h,_⟩;cases h);rintro e xq ⟨rh,⟨rfl⟩,ha,hb⟩;have ef:=I (bf.o.trans (hb.mono bf.o.size));have EU:=I ha;clear ha
 replace bf:=ef
 clear ef hb ax;have ax:=cj.o xq bf.o;refine⟨ax,?_⟩;simp only[bN,bM,bO];refine eZ 6 (aZ #[.func (.func 223) #[] #[J rh 0,J bk 0],r c 17]) ax ?_;refine fs 10 ?_;refine gE 222 (adE t bk xq) ?_ (aP:=by rintro _ _ ⟨_,h,_⟩;cases h) (aQ:=by rintro _ ⟨_,h,_⟩;cases h);rintro e rr ⟨vI,⟨rfl⟩,ha,hb⟩;have ef:=I (bf.o.trans (hb.mono bf.o.size));have DO:=db (EU.o.aq hb) ha;clear ha
 replace bf:=ef
 clear ef hb ax;have ax:=cj.o rr bf.o;refine⟨ax,?_⟩;simp only[bN,bM,bO];refine eZ 11 (aZ #[.func (.func 223) #[] #[J vI 0,J bk 0],r c 18]) ax ?_;refine fs 14 ?_;have hb:ae rr (rr.alloc (an #[.func (.func 225) #[] #[J bk 0],r c 1,.func (.func 223) #[] #[J rh 0,J bk 0],r c 17,.func (.func 223) #[] #[J vI 0,J bk 0],r c 18,.func (.func 226) #[] #[J bh 0,J bk 0],r c 19] 324)):=fb;refine Dw (v:=E (A (B rr.heap.size 0)) 4 4) (D:=(rr.alloc (an #[.func (.func 225) #[] #[J bk 0],r c 1,.func (.func 223) #[] #[J rh 0,J bk 0],r c 17,.func (.func 223) #[] #[J vI 0,J bk 0],r c 18,.func (.func 226) #[] #[J bh 0,J bk 0],r c 19] 324))) rfl rfl (by rfl) (by go_simp) ?_;have ef:=I (bf.o.trans (hb.mono bf.o.size))
 replace bf:=ef
 clear ef hb ax;have ax:=cj.o (rr.alloc (an #[.func (.func 225) #[] #[J bk 0],r c 1,.func (.func 223) #[] #[J rh 0,J bk 0],r c 17,.func (.func 223) #[] #[J vI 0,J bk 0],r c 18,.func (.func 226) #[] #[J bh 0,J bk 0],r c 19] 324)) bf.o;refine⟨ax,?_⟩;simp only[bN,bM,bO];refine fs 15 ?_;refine gE 224 (ON.o _ _ _ _ bf.o (V.new _ _ _ _) (DO.o.1.alloc _) (DO.o.2.alloc _)) ?_;rintro e xr ⟨⟨rfl⟩,hb⟩;have ef:=I (bf.o.trans (hb.mono bf.o.size))
 replace bf:=ef
 clear ef hb ax;have ax:=cj.o xr bf.o;refine⟨ax,?_⟩;simp only[bN,bM,bO];repeat refine fA ?_
 refine i4 ?_;go_wp2_with fail;go_ret;exact⟨rfl,dh.o.trans (bf.o.mono dh.o.size)⟩
def i0 (cl:Int):Int:=if 72057594037927936<=cl then 20 else 0
def i1 (cl:Int):Int:=if 72057594037927936<=cl then 0 else cl
def p4 (w:O) (cl:Int) (e:mA) (D:O):Prop:=∃p1 b2 aV p2 cm bb a8 bt bp,e=au (b8 #[aZ #[r c (i0 cl),r c (i1 cl),E p1 b2 aV,E p2 cm bb],E a8 bt bp])/\ae w D
theorem UH {Q:List Int} (hm:∀x∈b0,0<=x/\x<g.nodes) (hA:∀x∈Q,0<=x/\x<b0.length):∀m∈l4 b0 Q,0<=m/\m<g.nodes:=λm h=>by
 obtain⟨a,ha,rfl⟩:=jB.1 h;have:=hA a ha;rw[eA (by omega:a.toNat<b0.length)];exact hm _ (gB _)
theorem HB (w:O) (a b:Nat) (h:a≠b) (v0 v1 v2 rx:ac):((((w.drew.setCell (B a 0) v0).setCell (B a 1) v1).setCell (B a 2) v2).setCell (B a 3) rx).heap[b]? =w.heap[b]? :=by
 rw[pB _ _ _ _ (h8 h),pB _ _ _ _ (h8 h),pB _ _ _ _ (h8 h),pB _ _ _ _ (h8 h)];rfl
theorem AP {P:Program} {ops:Array Oper} {bT:Exit->Act->O->Prop} {o:Oper} {tmps:Array ac} {ds:List Deferred} {aT:Act->O->Prop} (ag:ops[i]? =A o) (a9:o.dst=T) (bU:Region.wanted o (yielded ops tmps)=ad)
 (he:(execOp (Act.eval {tmps:=tmps,defers:=ds}) o).run P w= .ok .skip D) (K:aT {tmps:=tmps,defers:=ds} D):wpOp P ops bT i aT {tmps:=tmps,defers:=ds} w:=by
 unfold wpOp;rw[ag];simp only[bU,if_true];refine .inl ?_;unfold Oper.wp;rw[he];simp only[Oper.upon];rw[a9];exact K
theorem OR (u:O):xV u (E T 0 0) []:=⟨T,0,rfl,bY _,cQ _,λ_ h=>absurd h (Dh _)⟩
theorem ar7 (hf:jz g N) (dE:eq w af g) (h:jq w bE g N b0) (hm:1<=b0.length/\b0.length<=12) {s t:Nat} (aB:s<N) (ht:t<N) (hst:s≠t) (dF cr:Int):
 aE aa 77 #[J af 0,J bE 0,aZ #[r c dF,r c s,r c t,r c cr]] w λe D=>p4 w (c1 g.arcs s t) e D:=by
 obtain⟨cl,iR⟩:=al (c1 g.arcs s t);rw[<-iR];obtain⟨bF,eV⟩:=al w.heap.size;obtain⟨d3,eS⟩:=al (bF+1);obtain⟨ba,cg⟩:=al ((w.alloc (an #[r c dF,r c s,r c t,r c cr] 50)).alloc (an #[r c 0,r c 0,E T 0 0,E T 0 0] 45));have ck:=oQ cg;have k5:V ba bF #[r c dF,r c s,r c t,r c cr] 50:=by rw[cg,eV];exact(V.new _ _ _ _).alloc _
 have k6:V ba d3 #[r c 0,r c 0,E T 0 0,E T 0 0] 45:=by
  have k:=V.new (w.alloc (an #[r c dF,r c s,r c t,r c cr] 50)) #[r c 0,r c 0,E T 0 0,E T 0 0] 45 (0,0);rw[d8] at k;rw[cg,eS,eV];exact k
 have m0:aM (∀u,ae ba u->eq u af g):=λu Z=>dE.a_ (bu.bg (ck.next' Z));have wU:aM (∀u,ae ba u->jq u bE g N b0):=λu Z=>h.a_ (bu.bg (ck.next' Z));have oB:aM (∀u,ae ba u->u.cell? (B bF 0)=A (r c dF)/\u.cell? (B bF 1)=A (r c s)/\u.cell? (B bF 2)=A (r c t)/\u.cell? (B bF 3)=A (r c cr)):=λu Z=>⟨(k5.aq Z).cell 0,(k5.aq Z).cell 1,(k5.aq Z).cell 2,(k5.aq Z).cell 3⟩;have HC:aM (∀u,ae ba u->V u d3 #[r c 0,r c 0,E T 0 0,E T 0 0] 45):=λu Z=>k6.aq Z;have dh:=db ck (show w.heap.size<=d3 by omega);have wV:=hf;have x1:=I iR;have pZ:=I h.G8;have hk:aM (∀u,ae ba u->aE aa 140 #[J af 0,J bE 0,aZ #[r c dF,r c s,r c t,r c cr]] u λe D=>e=au (r c 0)/\ae u D):=λu Z=>ar4 (m0.o u Z) (wU.o u Z) hm.1 aB ht dF cr;have Kt:aM (∀u,ae ba u->aE aa 141 #[J bE 0,r c s,r c t,r c cr] u λe D=>∃a Q R,e=au (E a (pA Q) R)/\cR D (E a (pA Q) R) Q/\(∀x∈Q,0<=x/\x<b0.length)/\Q.length<=12/\ae u D):=λu Z=>Uv (wU.o u Z) hm aB ht cr;obtain⟨bR,aV,bb,ch⟩:=oB.o ba (bx _ _);rw[cg,eV] at bR aV bb ch;have OS:(s:Int)≠t:=G;have h4:=I cg;clear cg iR;go_in;go_wp2_with fail;rw[<-h4.o,<-eV,<-eS];clear eV eS;refine dl (hk.o _ (bx _ _)) λbi c_=>?_;obtain⟨bR,aV,bb,ch⟩:=oB.o bi c_;have UI:=I (Kt.o bi c_);go_wp2_with fail;refine UI.o.mono ?_;rintro e bD ⟨dG,Q,fF,rfl,ak,hA,pO,cT⟩;obtain⟨g9,x5⟩:=al (y7 g N (l4 b0 Q) t);have sD:=c_.next' cT;have n2:qC g N t g9:= .inr ⟨l4 b0 Q,UH pZ.o hA,x5⟩;have bC:aM (∀u,ae bD u->u.cell? (B bF 1)=A (r c s)/\u.cell? (B bF 2)=A (r c t)):=λu Z=>by
  obtain⟨_,aV,bb,_⟩:=oB.o u (sD.next' Z);exact⟨aV,bb⟩
 have m1:aM (∀u,ae bD u->aE aa 142 #[J bE 0,E dG Q.length fF,r c t] u λe D=>∃a R,e=au (E a g9.length R)/\cR D (E a g9.length R) g9/\ae u D):=λu Z=>by
  rw[x5];exact ac4 (wU.o u (sD.next' Z)) (ak.a_ (bu.bg Z)) G hA ht
 have Ku:aM (∀u cV cF,ae bD u->cR u (E cV g9.length cF) g9->aE aa 74 #[J af 0,aZ #[r c s,r c t,E T 0 0,E cV g9.length cF]] u λe D=>HA u cl e D):=λu cV cF Z aP=>by
  have aC:=wV.nodes;have p5:0<=((t:Nat):Int)/\((t:Nat):Int)<g.nodes:=bI ht;have uS:0<=((s:Nat):Int)/\((s:Nat):Int)<g.nodes:=bI aB;rw[x1.o,<-n2.acY wV.ok aC p5];exact UF (aG:=[]) (eG:=T) (ix:=0) ⟨wV,m0.o u (sD.next' Z),OR u,aP,.inl rfl,n2.len,n2.pos wV.ok p5,rfl,bI aB,bI ht,n2.arcs wV.ok aC p5 [],n2.cl wV.ok aC uS p5 []⟩
 clear x5;go_wp2_with fail;refine pF 16 bC.o λdV dz ax=>?_;repeat first|refine fS ?_|refine ea ?_
 refine RI [9,10,11,12,13,15] 14 (λoA gy tu hh u=>match oA with
  |9=>∃(cV:Option cp) (cF:Nat),gy=E cV g9.length cF/\(cR u (E cV g9.length cF) g9)
  |10=>∃(cV:Option cp) (cF:Nat),gy=aZ #[r c s,r c t,E T 0 0,E cV g9.length cF]/\(cR u (E cV g9.length cF) g9)
  |11=>∃(c3:Option cp) (c4:Nat) (c5:Nat) (a8:Option cp) (bt:Nat) (bp:Nat),gy=b8 #[aZ #[r c cl,E c3 c4 c5,E a8 bt bp],r c 0]
  |12=>∃(c3:Option cp) (c4:Nat) (c5:Nat) (a8:Option cp) (bt:Nat) (bp:Nat),gy=b8 #[aZ #[r c cl,E c3 c4 c5,E a8 bt bp],r c 0]
  |13=>∃(c3:Option cp) (c4:Nat) (c5:Nat) (a8:Option cp) (bt:Nat) (bp:Nat),gy=aZ #[r c cl,E c3 c4 c5,E a8 bt bp]
  |15=>∃(em:Nat),gy=a6 (A ⟨em,0,T⟩)/\(V u em #[r c 0,E T 0 0,E T 0 0] 202 (0,0)/\bD.heap.size<=em)
  |14=>gy=r c 0
  |_=>True) (eF:=2) ?_ (λD bU=>bC.o _ (dz.next' bU)) ?_ (λdZ jZ ia hH u hF=>?_) (λdZ jZ ia u hb dK mR=>?_)
 ·intro oA gy tu hh iV j' ah hb _;try dsimp only at ah⊢
  split at ah
  ·obtain⟨cV,cF,e,tv⟩:=ah;exact⟨cV,cF,e,(tv.a_ (bu.bg hb))⟩
  ·obtain⟨cV,cF,e,tv⟩:=ah;exact⟨cV,cF,e,(tv.a_ (bu.bg hb))⟩
  ·obtain⟨c3,c4,c5,a8,bt,bp,e⟩:=ah;exact⟨c3,c4,c5,a8,bt,bp,e⟩
  ·obtain⟨c3,c4,c5,a8,bt,bp,e⟩:=ah;exact⟨c3,c4,c5,a8,bt,bp,e⟩
  ·obtain⟨c3,c4,c5,a8,bt,bp,e⟩:=ah;exact⟨c3,c4,c5,a8,bt,bp,e⟩
  ·obtain⟨em,e,EV⟩:=ah;exact⟨em,e,⟨EV.1.aq hb,EV.2⟩⟩
  ·exact ah
  ·trivial
 ·intro dO ag fj dZ jZ ia hH u hp fP hF;simp only[gg,iS,or_false,fW,f1] at ag;have aL:=I (dz.next' hF.below);rcases ag with rfl|rfl|rfl|rfl|rfl|rfl|rfl
  ·have t41:hH[41]? =A (J bE 0):=hF.base fP 41;have t42:hH[42]? =A (E dG Q.length fF):=hF.base fP 42;have t44:hH[44]? =A (r c t):=hF.base fP 44;refine e3 142 #[J bE 0,E dG Q.length fF,r c t] (m1.o u aL.o) ?_;rintro e cz ⟨cV,cF,rfl,ak,hb⟩;refine⟨_,rfl,?_⟩;have hf:(cR cz (E cV g9.length cF) g9):=ak;exact⟨_,rfl,hb,cV,cF,rfl,hf⟩
  ·have t38:hH[38]? =A (r c s):=hF.base fP 38;have t40:hH[40]? =A (r c t):=hF.base fP 40;obtain⟨t45,⟨cV,cF,ar8,tv⟩,_⟩:=hF.jV hp 9 45;rw[ar8] at t45;exact gD (aZ #[r c s,r c t,E T 0 0,E cV g9.length cF]) u ⟨_,rfl,bx _ _,cV,cF,rfl,tv⟩
  ·have t36:hH[36]? =A (J af 0):=hF.base fP 36;obtain⟨t46,⟨cV,cF,OT,tv⟩,_⟩:=hF.jV hp 10 46;rw[OT] at t46;refine e3 74 #[J af 0,aZ #[r c s,r c t,E T 0 0,E cV g9.length cF]] (Ku.o u cV cF aL.o tv) ?_;rintro e cz ⟨c3,c4,c5,a8,bt,bp,rfl,hb⟩;refine⟨_,rfl,?_⟩;have hf:True:=trivial;exact⟨_,rfl,hb,c3,c4,c5,a8,bt,bp,rfl⟩
  ·obtain⟨t47,⟨c3,c4,c5,a8,bt,bp,ar9⟩,_⟩:=hF.jV hp 11 47;rw[ar9] at t47;exact gD (b8 #[aZ #[r c cl,E c3 c4 c5,E a8 bt bp],r c 0]) u ⟨_,rfl,bx _ _,c3,c4,c5,a8,bt,bp,rfl⟩
  ·obtain⟨t35,⟨c3,c4,c5,a8,bt,bp,Kv⟩,_⟩:=hF.jV hp 12 35;rw[Kv] at t35;exact gD (aZ #[r c cl,E c3 c4 c5,E a8 bt bp]) u ⟨_,rfl,bx _ _,c3,c4,c5,a8,bt,bp,rfl⟩
  ·have hb:ae u (u.alloc (an #[r c 0,E T 0 0,E T 0 0] 202)):=fb;have hf:V (u.alloc (an #[r c 0,E T 0 0,E T 0 0] 202)) u.heap.size #[r c 0,E T 0 0,E T 0 0] 202 (0,0)/\bD.heap.size<=u.heap.size:=⟨V.new _ _ _ _,aL.o.size⟩;refine gD (J u.heap.size 0) (u.alloc (an #[r c 0,E T 0 0,E T 0 0] 202)) ?_;exact⟨_,rfl,hb,_,rfl,hf⟩
  ·obtain⟨t35,⟨c3,c4,c5,a8,bt,bp,Kv⟩,_⟩:=hF.jV hp 12 35;rw[Kv] at t35;exact gD (r c 0) u ⟨_,rfl,bx _ _,rfl⟩
 ·obtain⟨t35,⟨c3,c4,c5,a8,bt,bp,Kv⟩,_⟩:=hF.own 12 a3;rw[Kv] at t35;have t35:hH[35]? =_:=t35;exact⟨_,λw=>⟨by rfl,by go_simp;try rfl⟩,rfl⟩
 obtain⟨⟨cV,cF,om,tv⟩,_⟩:=dK 9 a3;obtain⟨⟨aD5,aD6,EW,aD7⟩,_⟩:=dK 10 a3;obtain⟨⟨ar_,ar',asa,asb,asc,asd,vH⟩,_⟩:=dK 11 a3;obtain⟨⟨aD8,aD9,aD_,aD',aEa,aEb,AQ⟩,_⟩:=dK 12 a3;obtain⟨⟨c3,c4,c5,a8,bt,bp,AR⟩,_⟩:=dK 13 a3;obtain⟨⟨em,vJ,EV⟩,_⟩:=dK 15 a3;have wT:dZ 14=_:=(dK 14 a3).1;rw[om,EW,vH,AQ,AR,vJ,wT];have aL:=I (dz.next' hb);have k10:=EV.1;have fU:=aR k10 0;have fO:=aR k10 1;have fD:=aR k10 2;have gx:=jw k10;have j5:=gx 0;have f6:=gx 1;have eF:=gx 2;obtain⟨eo,iz⟩:=al (((u.setCell (B em 0) (r c cl)).setCell (B em 1) (E c3 c4 c5)).setCell (B em 2) (E a8 bt bp));have k:=((k10.set 0 (r c cl)).set 1 (E c3 c4 c5)).set 2 (E a8 bt bp);have lL:ae bD eo:=by
  rw[iz];exact((aL.o.setCell (p:=B em 0) EV.2 _).setCell (p:=B em 1) EV.2 _).setCell (p:=B em 2) EV.2 _
 refine dJ 16 ?_;refine lG eo ?_ (he:=by rw[iz];go_simp);rw[<-iz] at k;have cH:=db k (sD.next' lL);clear iz;refine⟨gj,?_⟩;refine kr 17 (r c 0) eo ?_;refine fc ?_;have e0:=cH.o.1.cell 0;have br:=cH.o.1.cell 1;have a4:=cH.o.1.cell 2;simp at e0 br a4;have kW:=cH.o.2;have k6:=HC.o eo kW;have gc:=aR k6 0;have f8:=aR k6 1;have h7:=aR k6 2;have oq:=aR k6 3;have h':=jw k6;have zb:=h' 0;have g':=h' 1;have iE:=h' 2;have jx:=h' 3;have ss:aM (∀u,ae eo u->u.cell? (B em 0)=A (r c cl)/\u.cell? (B em 1)=A (E c3 c4 c5)/\u.cell? (B em 2)=A (E a8 bt bp)):=λu Z=>⟨(cH.o.1.aq Z).cell 0,(cH.o.1.aq Z).cell 1,(cH.o.1.aq Z).cell 2⟩;have Kw:=I (dh.o.1.next' kW);have b9:d3≠em:=λe=>by
  rw[e] at k6;exact absurd (er k6 cH.o.1) bj
 by_cases se:72057594037927936<=cl
 ·go_wp2_with fail;refine jj (S:=λD=>D.cell? (B em 0)=A (r c cl)/\D.cell? (B em 1)=A (E c3 c4 c5)/\D.cell? (B em 2)=A (E a8 bt bp)) rfl ?_;have ax:=ss.o eo.drew (bx _ _).drew;change gV _ _ _ _ _ 5 _ _ eo.drew;refine eZ 0 (aZ #[r c 20,r c 0,E T 0 0,E T 0 0]) ax ?_;refine eZ 1 (J em 2) ax ?_;refine eZ 2 (E a8 bt bp) ax ?_;obtain⟨fd,j0⟩:=al ((((eo.drew.setCell (B d3 0) (r c 20)).setCell (B d3 1) (r c 0)).setCell (B d3 2) (E T 0 0)).setCell (B d3 3) (E T 0 0));have UJ:V eo.drew d3 #[r c 0,r c 0,E T 0 0,E T 0 0] 45:=k6;have k:=(((UJ.set 0 (r c 20)).set 1 (r c 0)).set 2 (E T 0 0)).set 3 (E T 0 0);rw[<-j0] at k;have oo:ae w fd:=by rw[j0];exact((((Kw.o.drew.setCell (p:=B d3 0) dh.o.2 _).setCell (p:=B d3 1) dh.o.2 _).setCell (p:=B d3 2) dh.o.2 _).setCell (p:=B d3 3) dh.o.2 _)
  have lA:fd.heap[em]? =eo.heap[em]? :=by rw[j0];exact(HB eo d3 em b9 _ _ _ _)
  refine fs 3 ?_;refine AP (D:=fd) rfl rfl (by rfl) (by rw[j0];go_simp) ?_;have gS:V fd em _ _ _:=lA.trans cH.o.1;have jI:fd.cell? (B em 0)=A (r c cl)/\fd.cell? (B em 1)=A (E c3 c4 c5)/\fd.cell? (B em 2)=A (E a8 bt bp):=⟨gS.cell 0,gS.cell 1,gS.cell 2⟩;refine⟨jI,?_⟩;clear j0;refine fs 4 ?_;refine Dw (v:=E a8 bt bp) (D:=fd) rfl rfl (by rfl) (by go_simp) ?_;refine⟨jI,?_⟩;simp only[bN,bM,bO];refine i4 ?_;go_wp2_with fail;have r0:=k.cell 0;have r1:=k.cell 1;have r2:=k.cell 2;have eC:=k.cell 3;refine gh (v:=b8 #[aZ #[r c 20,r c 0,E T 0 0,E T 0 0],E a8 bt bp]) (by simp at r0 r1 r2 eC;simp[gq,aB6,go_sem,r0,r1,r2,eC]) rfl ?_;refine⟨T,0,0,T,0,0,a8,bt,bp,?_,oo⟩;unfold i0 i1;rw[if_pos se,if_pos se]
 ·have Kx:cl<72057594037927936:=G;go_wp2_with fail;refine jj (S:=λD=>D.cell? (B em 0)=A (r c cl)/\D.cell? (B em 1)=A (E c3 c4 c5)/\D.cell? (B em 2)=A (E a8 bt bp)) rfl ?_;have ax:=ss.o eo.drew (bx _ _).drew;change gV _ _ _ _ _ 10 _ _ eo.drew;refine eZ 0 (J em 0) ax ?_;refine eZ 1 (r c cl) ax ?_;refine eZ 2 (J em 1) ax ?_;refine eZ 3 (E c3 c4 c5) ax ?_;refine eZ 4 (E dG Q.length fF) ax ?_;refine eZ 5 (aZ #[r c 0,r c cl,E c3 c4 c5,E dG Q.length fF]) ax ?_;refine eZ 6 (J em 2) ax ?_;refine eZ 7 (E a8 bt bp) ax ?_;obtain⟨fd,j0⟩:=al ((((eo.drew.setCell (B d3 0) (r c 0)).setCell (B d3 1) (r c cl)).setCell (B d3 2) (E c3 c4 c5)).setCell (B d3 3) (E dG Q.length fF));have UJ:V eo.drew d3 #[r c 0,r c 0,E T 0 0,E T 0 0] 45:=k6;have k:=(((UJ.set 0 (r c 0)).set 1 (r c cl)).set 2 (E c3 c4 c5)).set 3 (E dG Q.length fF);rw[<-j0] at k;have oo:ae w fd:=by rw[j0];exact((((Kw.o.drew.setCell (p:=B d3 0) dh.o.2 _).setCell (p:=B d3 1) dh.o.2 _).setCell (p:=B d3 2) dh.o.2 _).setCell (p:=B d3 3) dh.o.2 _)
  have lA:fd.heap[em]? =eo.heap[em]? :=by rw[j0];exact(HB eo d3 em b9 _ _ _ _)
  refine fs 8 ?_;refine AP (D:=fd) rfl rfl (by rfl) (by rw[j0];go_simp) ?_;have gS:V fd em _ _ _:=lA.trans cH.o.1;have jI:fd.cell? (B em 0)=A (r c cl)/\fd.cell? (B em 1)=A (E c3 c4 c5)/\fd.cell? (B em 2)=A (E a8 bt bp):=⟨gS.cell 0,gS.cell 1,gS.cell 2⟩;refine⟨jI,?_⟩;clear j0;refine fs 9 ?_;refine Dw (v:=E a8 bt bp) (D:=fd) rfl rfl (by rfl) (by go_simp) ?_;refine⟨jI,?_⟩;simp only[bN,bM,bO];refine i4 ?_;go_wp2_with fail;have r0:=k.cell 0;have r1:=k.cell 1;have r2:=k.cell 2;have eC:=k.cell 3;refine gh (v:=b8 #[aZ #[r c 0,r c cl,E c3 c4 c5,E dG Q.length fF],E a8 bt bp]) (by simp at r0 r1 r2 eC;simp[gq,aB6,go_sem,r0,r1,r2,eC]) rfl ?_;refine⟨c3,c4,c5,dG,Q.length,fF,a8,bt,bp,?_,oo⟩;unfold i0 i1;rw[if_neg G,if_neg G]
theorem ase (hf:jz g N) (dE:eq w af g) (hb:b<N):aE aa 272 #[J af 0,r c b] w λe D=>∃a' bF bz bv cx dD c2,e=au (.func (.func 302) #[] #[J a' 0,J bF 0])/\V D a' #[J af 0] 62 (0,0)/\V D bF #[E (A (B bz 0)) N N,E (A (B bv 0)) N N,E cx dD c2] 160 (0,0)/\(∃b4 aS C,vo (g.arcs.map kF) b N b4 aS C/\V D bz (c6 c b4) 2)/\ae w D:=by
 obtain⟨a',eB⟩:=al w.heap.size;obtain⟨ay,bA⟩:=al (w.alloc (an #[J af 0] 62));have aX:=dx bA;have k2:=eK bA eB;have qW:aM (∀u,ae ay u->V u a' #[J af 0] 62):=λu Z=>k2.aq Z;have UK:aM (∀u,ae ay u->aE aa 49 #[J af 0,r c b] u λe D=>∃bz bv cx dD c2,e=au (aZ #[E (A (B bz 0)) N N,E (A (B bv 0)) N N,E cx dD c2])/\(∃b4 aS C,vo (g.arcs.map kF) b N b4 aS C/\V D bz (c6 c b4) 2)/\ae u D):=λu Z=>(Ty af g N hf b ⟨G,G⟩ u (dE.a_ (bu.bg (aX.next' Z)))).mono (by
  rintro e D ⟨v,rfl,⟨bz,bv,d_,b4,aS,C,rfl,h1,h2,_,⟨_,cL⟩,_⟩,h⟩;obtain⟨cx,dD,c2,rfl⟩:∃a n R,d_=E a n R:=by
   rcases cL with⟨e,_⟩|⟨_,_,_,e,_⟩
   ·exact⟨_,_,_,e⟩
   ·exact⟨_,_,_,e⟩
  exact⟨bz,bv,cx,dD,c2,rfl,⟨b4,aS,C,h1,h2⟩,h⟩)
 have bR:=aR k2 0;rw[bA,eB] at bR;have ft:=I aX;have cX:=I bA;have g_:=@hJ aa;clear hf dE hb aX bA k2;go_in;go_wp2_with fail;rw[<-cX.o,<-eB];clear eB bR;refine(UK.o _ (bx _ _)).mono ?_;rintro e bD ⟨bz,bv,cx,dD,c2,rfl,⟨b4,aS,C,lC,mD⟩,cT⟩;have k2:=qW.o bD cT;have oa:ae bD (bD.alloc (an #[E (A (B bz 0)) N N,E (A (B bv 0)) N N,E cx dD c2] 160)):=fb;have cH:=jU (k2.aq oa) (V.new bD #[E (A (B bz 0)) N N,E (A (B bv 0)) N N,E cx dD c2] 160 (0,0)) (mD.aq oa) (ft.o.next' (cT.trans (oa.mono cT.size)));have Ha:=I lC;clear k2 oa lC mD cT;go_wp2_with fail;go_ret;exact⟨a',bD.heap.size,bz,bv,cx,dD,c2,rfl,cH.o.1,cH.o.2.1,⟨b4,aS,C,Ha.o,cH.o.2.2.1⟩,cH.o.2.2.2⟩
theorem cR.tail {a:Option cp} {cap:Nat} (h:cR w (E a n cap) L) q (aO:q<=L.length):cR w (E (if cap=q then a else a.map λx=>x.add q) (n-q) (cap-q)) (L.drop q):=by
 obtain⟨fM,nl,e,h1,h2,ap⟩:=h;simp only[Ql] at e;obtain⟨rfl,rfl,rfl⟩:=e;refine⟨_,_,by rw[Mi],by rw[Mi];omega,G,λi ag=>?_⟩;rw[Mi] at ag;obtain⟨b,off,cs,t,fr,ha,cd,ah⟩:=ap (q+i) G;refine⟨b,off+q,cs,t,fr,?_,cd,?_⟩
 ·rw[if_neg G,ha];simp[Addr.add]
 ·rw[aiP,aiN];exact ah
section
attribute [local go_sem] f'
theorem asf (bK:g.e2) (b1:(N:Int)=g.nodes) (dE:eq w af g) {bz a' bF:Nat} {bv cx:Option cp} {dD c2:Nat} {b4:List Int} (aw:b4.length=N) (h2:V w a' #[J af 0] 62) (cL:V w bF #[E (A (B bz 0)) N N,E bv N N,E cx dD c2] 160) (a9:V w bz (c6 c b4) 2) (ag:i<g.arcs.length):
 aE aa 302 #[r c i,J a' 0,J bF 0] w λe D=>e=au (aA (Hn b4 (gw g i)))/\ae w D:=by
 have bb:=aR h2 0;have tq:=Ub af g i w dE;have Uk:kE g i=A g.arcs[i]:=by unfold kE;rw[if_pos ⟨G,G⟩,ko,eA ag]
 rw[Uk] at tq;rw[oY ag];obtain⟨a1,a2,dX,jc⟩:=bK.aS _ (gB ag);generalize g.arcs[i]=a at tq a1 a2 dX jc⊢;obtain⟨c0,cI,dB⟩:=a;dsimp only at a1 a2;obtain⟨k0,jl⟩:=r6 a1.1;obtain⟨k1,pa⟩:=r6 a2.1;subst jl pa;have ku:k0<N:=G;have n4:k1<N:=G;obtain⟨d0,l0⟩:=al (b4[k0]?.getD 0);obtain⟨d1,lW⟩:=al (b4[k1]?.getD 0);have e0:b4[k0]? =A d0:=by rw[l0,eA G];rfl
 have br:b4[k1]? =A d1:=by rw[lW,eA G];rfl
 obtain⟨U,ar⟩:=al (ra iw [d1,dB]);obtain⟨fin,us⟩:=al (decide (iw U<72057594037927936));have hV:Hn b4 ((k0:Int),(k1:Int),dB)=(fin&&(U==d0)):=by
  unfold Hn;dsimp only;rw[ko,ko,<-l0,<-lW,<-ar,<-us]
  congr 1
 obtain⟨q,aO⟩:∃q,(U==d0)=q:=⟨_,rfl⟩;rw[hV,aO];have dM:aM (∀u,aE aa 303 #[r c d1,r c dB] u λe D=>e=au (r c U)/\ae u D):=λu=>by rw[ar];exact aoA d1 dB u
 have Kn:aM (∀u,aE aa 284 #[r c U] u λe D=>e=au (aA fin)/\ae u D):=λu=>by rw[us];exact JR U u
 change aE _ _ _ _ (λe D=>e=au (b8 #[aZ #[r c k0,r c k1,r c dB],aA ad])/\ae w D) at tq;have Hp:=I tq;have UL:aM (∀u,ae w u->u.cell? (B bF 0)=A (E (A (B bz 0)) N N)/\u.cell? (B bz k0)=A (r c d0)/\u.cell? (B bz k1)=A (r c d1)):=λu Z=>by
  have ek:=(cL.aq Z).cell 0;have q0:=(a9.aq Z).cell k0;have q1:=(a9.aq Z).cell k1;rw[M_,e0] at q0;rw[M_,br] at q1;exact⟨ek,q0,q1⟩
 have eP:=ew k0;have js:=ew k1;have mC:(k0:Int)<N:=G;have xc:(k1:Int)<N:=G;clear l0 lW ar us;go_in;go_wp2_with fail;refine dl Hp.o λcz hb=>?_;obtain⟨hI,kW⟩:=al (cz.alloc (an #[r c k0,r c k1,r c dB] 57));obtain⟨d3,eS⟩:=al cz.heap.size;have ck:=dx kW;have hj:=hb.next' ck;have k6:=eK kW eS;have cj:aM (∀u,ae hI u->u.cell? (B bF 0)=A (E (A (B bz 0)) N N)/\u.cell? (B d3 0)=A (r c k0)/\u.cell? (B d3 1)=A (r c k1)/\u.cell? (B d3 2)=A (r c dB)/\u.cell? (B bz k0)=A (r c d0)/\u.cell? (B bz k1)=A (r c d1)):=λu Z=>by
  obtain⟨q1,q2,bm⟩:=UL.o u (hj.next' Z);have k6:=k6.aq Z;exact⟨q1,k6.cell 0,k6.cell 1,k6.cell 2,q2,bm⟩
 have d':=I (bx hI.heap.size hI);have dh:=I hj;have l5:=db kW eS;clear kW;go_wp2_with fail;rw[<-eS] at*;rw[<-l5.o.1];clear eS;refine jj (S:=λD=>D.cell? (B bF 0)=A (E (A (B bz 0)) N N)/\D.cell? (B d3 0)=A (r c k0)/\D.cell? (B d3 1)=A (r c k1)/\D.cell? (B d3 2)=A (r c dB)/\D.cell? (B bz k0)=A (r c d0)/\D.cell? (B bz k1)=A (r c d1)) rfl ?_;have ax:=cj.o hI.drew (d'.o.drew);change gV _ _ _ _ _ 10 _ _ hI.drew;have bf:=I (d'.o.drew);repeat refine fA ?_
 refine fs 8 ?_;refine gE 303 (dM.o hI.drew) ?_;rintro r7 mG ⟨⟨rfl⟩,hb⟩;have ef:=I (bf.o.trans (hb.mono bf.o.size))
 replace bf:=ef
 have ax:=cj.o mG bf.o;refine⟨ax,?_⟩;simp only[bN,bM,bO];repeat refine fA ?_
 refine i4 ?_;have AS:=I (show ae hI mG from bf.o);go_wp2_with fail;refine dl (Kn.o mG) λkw hb=>?_;have hd:=I (AS.o.next' hb);obtain⟨s1,fX,oM,u3,Ry,aEc⟩:=cj.o kw hd.o;cases fin with
 |true=>
  go_wp2_with fail;go_ret;exact⟨by rw[XR];rfl,dh.o.next' hd.o⟩
 |false=>
  go_wp2_with fail;go_ret;exact⟨rfl,dh.o.next' hd.o⟩
def l7 (am X n:Nat) (W W':O):Prop:=bQ am W W'/\∀k,k<n->k≠X->W'.heap[k]? =W.heap[k]?
theorem l7.refl (am X n:Nat) (W:O):l7 am X n W W:=⟨bx _ _,λ_ _ _=>rfl⟩
theorem l7.trans {C:O} (h:l7 am X n Q ai) (k:l7 am X n ai C):l7 am X n Q C:=⟨h.1.trans k.1,λi h1 h2=>(k.2 i h1 h2).trans (h.2 i h1 h2)⟩
theorem l7.bg (h:ae Q ai) (h1:am<=Q.heap.size) (h2:n<=Q.heap.size):l7 am X n Q ai:=⟨h.mono h1,λk K _=>h.block k G⟩
theorem l7.put (W:O) (l:Nat) (dt:Obj) (h1:am<=l) (h2:n<=l):l7 am X n W (W.putObj l dt):=⟨vx (bx _ _) h1,λk K _=>jr G⟩
theorem l7.aH (h:l7 am X n Q ai) {cs:Array ac} {t:cY} {fr:Nat×Nat} (hb:V Q b cs t fr) (h1:b<n) (h2:b≠X):V ai b cs t fr:=(h.2 b h1 h2).trans hb
def OU {M:Nat} (x:Fin M):Array ac:=#[r c (x.1:Nat)]
def vK {M:Nat} (l:List (Fin M)):List Int:=l.map λx=>((x.1:Nat):Int)
theorem adF (l:List (Fin M)) (x:Fin M):vK (l++[x])=vK l++[((x.1:Nat):Int)]:=by unfold vK;rw[qc];rfl
theorem asg (m:Nat) (hm:1<=m) (am X n mW hc M:Nat) (dU:M<=1000000) (w:O) (dC:am<=n) (aC:n<=w.heap.size) (iM:Nat) (jm:∀args w,(gM iM args).run aa w= .ok (.enter iM args) w) (eN:Array ac) (h:Nat->Bool)
 (fH:∀u,l7 am X n w u->∀k,k<M->aE aa iM (#[r c k]++eN) u λe D=>e=au (aA (h k))/\ae u D)
 (sj:V w mW #[r c M] 3) (sA:V w hc #[.func (.func iM) #[] eN] 90) (h1:mW<n/\mW≠X) (h2:hc<n/\hc≠X):
 tk m 301 #[J mW 0,J hc 0] (OU (M:=M)) (l7 am X n) (λce _=>vK ce=f0 h M) M w:=λgd bG W hb ee ei h0=>by
 have hW:l7 am X n w W:= .bg hb G aC;have aV:=aR (hW.aH sj h1.1 h1.2) 0;have hP:=hb.size;have dd:=I fH;have dN:=db hW (show n<=W.heap.size by omega);have ZG:=I sj;have wQ:=I sA;have wW:=jU h1 h2 dC aC;have hM:=I (show∃pre:List (Fin M),vK pre=f0 h 0/\bG pre W from⟨[],rfl,h0⟩);refine kL aB7 rfl trivial ?_ rfl;simp only[ntmps301,g0,fV,gp,gA,g1,gI,gJ,gK,gL,f1,fW];gi_wp2_with fail;gi_loopw [6] (λi wr=>∃(k:Nat),k<=M/\i=r c k/\aM (l7 am X n w wr/\n<=wr.heap.size)/\aM (∃pre:List (Fin M),vK pre=f0 h k/\bG pre wr)) (λi _=>M-(cu i).toNat)
 ·exact⟨0,cQ _,rfl,dN,hM⟩
 ·obtain⟨k,K,rfl,hk,ky⟩:=hrel;by_cases a0:k<M
  ·have ie:(k:Int)<M:=G;have d1:=aR (hk.o.1.aH wQ.o wW.o.2.1.1 wW.o.2.1.2) 0;have iZ:=I (dd.o wr hk.o.1 k a0);obtain⟨pre,nJ,UM⟩:=ky.o;have sB:pre.length<M:=by
    have:=D5 h k;rw[<-nJ] at this;unfold vK at this;rw[iT] at this;omega
   have OV:=db nJ UM;cases aO:h k with
   |false=>
    rw[aO] at iZ;have oJ:=I (show f0 h (k+1)=f0 h k by rw[wu,aO];simp);gi_wp2_with fail;refine jb iZ.o λaJ a5=>?_;have uq:=I (show l7 am X n w aJ/\n<=aJ.heap.size from⟨hk.o.1.trans (.bg a5 (cM wW.o.2.2.1 hk.o.2) hk.o.2),cM hk.o.2 a5.size⟩);have AH:=I (show∃pre:List (Fin M),vK pre=f0 h (k+1)/\bG pre aJ from⟨pre,by rw[oJ.o];exact OV.o.1,ee _ _ _ OV.o.2 a5⟩);gi_wp2_with fail;refine⟨λ_ h=>(by cases h),?_⟩;gi_wp2_with fail;go_roundw
    ·exact⟨k+1,G,by go_num,uq,AH⟩
    ·simp[cu];omega
   |true=>
    rw[aO] at iZ;have oJ:=I (show f0 h (k+1)=f0 h k++[(k:Int)] by rw[wu,aO,if_pos rfl]);gi_wp2_with fail;refine jb iZ.o λaJ a5=>?_;have uq:=I (show l7 am X n w aJ/\n<=aJ.heap.size from⟨hk.o.1.trans (.bg a5 (cM wW.o.2.2.1 hk.o.2) hk.o.2),cM hk.o.2 a5.size⟩);have Cv:=ee _ _ _ OV.o.2 a5;obtain⟨fn,tmps,assign,body,az,cf⟩:=ei pre ⟨k,a0⟩ aJ Cv sB;dsimp only[OU] at az;gi_wp2_with fail;refine cf.mono ?_;rintro e dI ⟨rfl,ho,dv⟩;have hQ:=I (show l7 am X n w dI/\n<=dI.heap.size from⟨uq.o.1.trans dv,cM uq.o.2 dv.1.size⟩);have lf:=I (show∃pre:List (Fin M),vK pre=f0 h (k+1)/\bG pre dI from⟨_,by rw[adF,oJ.o,OV.o.1],ho⟩);gi_wp2_with fail;go_roundw
    ·exact⟨k+1,G,by go_num,hQ,lf⟩
    ·simp[cu];omega
  ·obtain rfl:k=M:=G;gi_wp2;go_end0;obtain⟨pre,h1,h2⟩:=ky.o;exact⟨⟨_,rfl⟩,pre,h1,h2⟩
theorem ash (m:Nat) (hm:2<=m) {mW hc:Nat} {l:List Bool} (aw:l.length=M) (dU:M<=1000) (hg:V w aW (iL l) 4) (dC:am<=aW) iM (jm:∀args w,(gM iM args).run aa w= .ok (.enter iM args) w) (eN:Array ac) (h:Nat->Bool)
 (fH:∀u,l7 am aW w.heap.size w u->∀k,k<M->aE aa iM (#[r c k]++eN) u λe D=>e=au (aA (h k))/\ae u D)
 (sj:V w mW #[r c M] 3) (sA:V w hc #[.func (.func iM) #[] eN] 90):
 ge dY m aa 270 #[E (A (B aW 0)) M M,.func (.func 301) #[] #[J mW 0,J hc 0],aA ad] w λe D=>e=au (E (A (B aW 0)) M M)/\V D aW (iL (rR l (f0 h M))) 4 (0,0)/\l7 am aW w.heap.size w D:=by
 have h1:1<=m:=G;obtain⟨bk,el⟩:=al w.heap.size;obtain⟨bF,eV⟩:=al (bk+1);obtain⟨aJ,cK⟩:=al ((w.alloc (an #[E (A (B aW 0)) M M] 186)).alloc (an #[aA ad] 4));have a5:=oQ cK;have k3:V aJ bk #[E (A (B aW 0)) M M] 186:=by rw[cK,el];exact(V.new _ _ _ _).alloc _
 have k5:V aJ bF #[aA ad] 4:=by
  have k:=V.new (w.alloc (an #[E (A (B aW 0)) M M] 186)) #[aA ad] 4 (0,0);rw[d8] at k;rw[cK,eV,el];exact k
 have hK:aJ.heap.size=w.heap.size+2:=by rw[cK];simp
 have hT:=hg.lt;have iP:∀u,l7 am aW aJ.heap.size aJ u->l7 am aW w.heap.size w u:=λu Z=>(l7.bg a5 G (bY _)).trans ⟨Z.1,λk K ak=>Z.2 k G ak⟩;have iQ:tk (m-1) 301 #[J mW 0,J hc 0] (OU (M:=M)) (l7 am aW aJ.heap.size) (λce _=>vK ce=f0 h M) M aJ:=
  asg (m-1) G am aW aJ.heap.size mW hc M G aJ G (bY _) iM jm eN h (λu Z k K=>fH u (iP u Z) k K) (sj.aq a5) (sA.aq a5) ⟨bI sj.lt,λe=>by subst e;exact absurd (er sj hg) bj⟩ ⟨bI sA.lt,λe=>by subst e;exact absurd (er sA hg) bj⟩
 have IQ:=hg.below a5 hT;have vt:=I iQ;have mc:=I cK;have S0:=I iP;have asi:=I IQ;have fG:=I aw;have qE:=qV el eV hK hT dC;have cw:=db k3 k5;clear cK aw;refine sL func270 rfl trivial ?_ rfl;simp only[ntmps270,g0,fV,gp,gA,g1,gI,gJ,gK,gL,f1,fW];gi_wp2_with fail;rw[<-mc.o,<-el,<-eV];clear el eV;refine J2 h1 (gf:=301) (lb:=#[J mW 0,J hc 0]) rfl (fg aB7 bq rfl) vt.o (λa b=>a.trans b) (λW l o dt aw aQ ah=>l7.put W l dt (bI qE.o) aw) (λ_=>rfl)
  (λce Q l o dt az aw aQ ah=>az)
  (λpre W=>l7 am aW aJ.heap.size aJ W/\V W aW (iL (rR l (vK pre))) 4)
  (λs Q C ⟨h1,h2⟩ hb=>⟨h1.trans (l7.bg hb (g3 qE.o h1.1.size) h1.1.size),h2.aq hb⟩)
  (λs Q l o dt ⟨h1,h2⟩ aw aQ ah=>⟨h1.trans (l7.put Q l dt (bI qE.o) aw),(rJ aQ ah h2).trans h2⟩)
  ⟨l7.refl _ _ _ _,asi.o⟩ ?a1 ?assign ?body ?done
 case assign=>
  intro l x W aT dQ;dsimp only[OU];gi_wp2;exact dQ
 case body=>
  rintro i3 pre x W ⟨K,CG⟩ a0;obtain⟨x,ak⟩:=x;have ch:=(K.aH cw.o.1 (bI cw.o.1.lt) (bI qE.o)).cell 0;have gl:=(K.aH cw.o.2 (bI cw.o.2.lt) (bI qE.o)).cell 0;simp only[la,py] at ch gl;have sB:(rR l (vK pre)).length=M:=by rw[OD,fG.o]
  have jF:=CG.cell x;rw[Ey _ _ G] at jF;have mH:=CG.free x (.inr (cQ _));obtain⟨ib,tt⟩:=al ((rR l (vK pre))[x]'G);rw[<-tt] at jF;have js:(x:Int)<M:=G;have eP:=ew x;have dN:=db K CG;clear tt sB;gi_wp2_with fail;have K:=dN.o.1;have CG:=dN.o.2;refine⟨(QN W (B aW x) (aA ad)).from _,?_,?_,?_⟩
  ·exact⟨(bx _ _).setCell (p:=B aW x) qE.o.2.2.2.2 _,λk _ b9=>d7 _ _ _ _ b9⟩
  ·exact K.trans ⟨(bx _ _).setCell (p:=B aW x) qE.o.2.2.2.2 _,λk _ b9=>d7 _ _ _ _ b9⟩
  ·have q:=CG.set x (aA ad);rw[TK] at q;rw[adF,ac8];exact q
 case done=>
  rintro aF ce W fh ro ⟨K,CG⟩ ly;have ch:=(K.aH cw.o.1 (bI cw.o.1.lt) (bI qE.o)).cell 0;simp only[la,py] at ch;rw[ro] at CG;have dN:=ig K CG fh;gi_wp2_with fail;refine vc (ai:=aJ.heap.size) a3 _ _ ⟨⟨aF,rfl,dN.o.2.2,ly,λdS h=>by cases h⟩,trivial⟩ λD eQ fi=>?_;refine⟨E (A (B aW 0)) M M,by simp[gq,results270,go_sem],rfl,eQ.aH dN.o.2.1,?_⟩;exact S0.o _ (dN.o.1.trans ⟨fi.mono (bI qE.o),λk K _=>fi.block k K⟩)
theorem asj (hf:jz g N) (dE:eq w af g) (hb:b<N) {Jz:Nat} (aC:V w Jz #[r c b] 3):aE aa 201 #[J af 0,E (A (B Jz 0)) 1 1] w λe D=>∃aW aG,e=au (E (A (B aW 0)) g.arcs.length g.arcs.length)/\V D aW (iL aG) 4 (0,0)/\aG.length=g.arcs.length/\(∀i (h:i<g.arcs.length),xY g b g.arcs[i]->aG[i]? =A ad)/\w.heap.size<=aW/\ae w D:=by
 obtain⟨M,dU⟩:=al g.arcs.length;obtain⟨aW,hT⟩:=al w.heap.size;obtain⟨ay,bA⟩:=al (w.alloc (an (iL (d5 M ao)) 4));have aX:=dx bA;have k1:=eK bA hT;have Ky:M<=84:=bI hf.po;obtain⟨P,dj⟩:∃P:Nat->O->Prop,P=λk u=>ae w u/\aW<u.heap.size/\((k=0/\V u aW (iL (d5 M ao)) 4)\/(k=1/\∃aG,V u aW (iL aG) 4 (0,0)/\aG.length=M/\∀i (h:i<g.arcs.length),xY g b g.arcs[i]->aG[i]? =A ad)):=⟨_,rfl⟩;have asl:P 0 ay:=by rw[dj];exact⟨aX,k1.lt,.inl ⟨rfl,k1⟩⟩
 have rN:=I (show aE aa 63 #[J af 0] w λe D=>e=au (r c M)/\D=w from by rw[dU];exact Hg af g w dE);have jT:=UA M G;have asm:aM (∀u,ae w u->u.cell? (B Jz 0)=A (r c b)):=λu Z=>(aC.aq Z).cell 0;have asn:aM (∀u,ae w u->aE aa 269 #[J af 0,r c b] u λe D=>e=au (aA ad)/\D=u):=λu Z=>arv hf.nodes (dE.a_ (bu.bg Z)) hb;have aso:=I (λu (Z:ae w u)=>ase hf (dE.a_ (bu.bg Z)) hb);have m0:aM (∀u,ae w u->eq u af g):=λu Z=>dE.a_ (bu.bg Z);have dq:=I hf;have e_:=I dj;have asp:=I asl;have cX:=db bA hT;have EX:=ig dU Ky hb;clear bA dj hT;clear dU;go_in;go_wp2_with fail;refine eO rN.o ?_;go_wp2_with fail;rw[<-cX.o.1,<-cX.o.2];go_loopw [5,15] (λv i wr=>∃k:Nat,k<=1/\v=E (A (B aW 0)) M M/\i=r c k/\aM (P k wr)) (λ_ i _=>1-(cu i).toNat)
 ·exact⟨0,G,rfl,rfl,asp⟩
 ·obtain⟨k,K,rfl,rfl,Kz⟩:=hrel;by_cases a0:k<1
  ·obtain rfl:k=0:=G;have x6:=Kz.o;rw[e_.o] at x6;obtain⟨q1,q2,bm⟩:=x6;have cZ:V wr aW (iL (d5 M ao)) 4:=by
    rcases bm with⟨_,h⟩|⟨h,_⟩
    ·exact h
    ·omega
   have aay:=asm.o wr q1;have GQ:=I (asn.o wr q1);have asq:=I (aso.o wr q1);have hz:=ig q1 q2 cZ;go_wp2_with fail;refine eO GQ.o ?_;go_wp2_with fail;refine asq.o.mono ?_;rintro e bD ⟨a',bF,bz,bv,cx,dD,c2,rfl,k2,k5,⟨b4,aS,C,b3,eh⟩,cT⟩;have UN:=I (arw M (.func 302) #[J a' 0,J bF 0] bD);have cw:=qV k2 k5 eh b3 cT;go_wp2_with fail;refine dl UN.o λcG fq=>?_;obtain⟨k2,k5,eh,b3,cT⟩:=cw.o;have jn:=oQ fq;have asr:V cG bD.heap.size #[r c M] 3:=by rw[fq];exact(V.new _ _ _ _).alloc _
   have Hm:V cG (bD.heap.size+1) #[.func (.func 302) #[] #[J a' 0,J bF 0]] 90:=by
    have k:=V.new (bD.alloc (an #[r c M] 3)) #[.func (.func 302) #[] #[J a' 0,J bF 0]] 90 (0,0);rw[d8] at k;rw[fq];exact k
   have oI:=cT.next' jn;have k2:=k2.aq jn;have k5:=k5.aq jn;have eh:=eh.aq jn;have zc:=hz.o.2.2.below oI hz.o.2.1;have dC:w.heap.size<=aW:=by rw[cX.o.2];exact bY _
   have x7:=I (im.1 (ash 4 G (am:=w.heap.size) (jD) (bI EX.o.2.1) zc dC 302 (fg func302 bq rfl) #[J a' 0,J bF 0] (λk=>Hn b4 (gw g k)) (λu Z k K=>by
    have b9:∀{qR:Nat} {cs:Array ac} {t:cY} {fr:Nat×Nat},V cG qR cs t fr->t≠4->V u qR cs t fr:=λ{qR cs t fr} fi ht=>Z.aH fi fi.lt (λe=>by subst e;exact ht (er fi zc));exact asf dq.o.ok dq.o.nodes (m0.o u ((hz.o.1.trans (oI.mono hz.o.1.size)).trans Z.1)) b3.tg (b9 k2 bj) (b9 k5 bj) (b9 eh bj) (bI EX.o.1)) asr Hm))
   have e7:=db b3 (hz.o.1.trans (oI.mono hz.o.1.size));clear fq;go_wp2_with fail;refine x7.o.mono ?_;rintro e gY ⟨rfl,zc,DR⟩;have OW:=I (show P 1 gY from by
    rw[e_.o];refine⟨e7.o.2.trans DR.1,zc.lt,.inr ⟨rfl,_,zc,by rw[OD,jD],λi ag ht=>?_⟩⟩;have adG:i<M:=bI EX.o.1;refine ac9 (by rw[jD];exact adG) (D6.2 ⟨i,rfl,adG,?_⟩);rw[oY ag];exact aqh dq.o.ok dq.o.nodes e7.o.1 (gB ag) ht)
   go_wp2_with fail;go_roundw
   ·exact⟨1,G,rfl,by go_num,OW⟩
   ·simp[cu]
  ·obtain rfl:k=1:=G;go_wp2_with fail;go_ret;have x6:=Kz.o;rw[e_.o] at x6;obtain⟨q1,q2,⟨h,_⟩|⟨_,aG,r1,r2,eC⟩⟩:=x6
   ·omega
   ·exact⟨aW,aG,by rw[<-EX.o.1];rfl,r1,r2.trans EX.o.1,eC,by rw[cX.o.2];exact bY _,q1⟩
theorem ass (hf:jz g N) (dE:eq w af g) (hb:b<N):aE aa 113 #[J af 0,r c b] w λe D=>∃aW aG,e=au (E (A (B aW 0)) g.arcs.length g.arcs.length)/\V D aW (iL aG) 4 (0,0)/\aG.length=g.arcs.length/\(∀i (h:i<g.arcs.length),xY g b g.arcs[i]->aG[i]? =A ad)/\w.heap.size<=aW/\ae w D:=by
 obtain⟨ay,bA⟩:=al (w.alloc (an #[r c b] 3));have aX:=dx bA;have k1:=eK bA rfl;have dM:=I (asj hf (dE.a_ (bu.bg aX)) hb k1);have dN:=db bA aX;clear bA;go_in;go_wp2_with fail;rw[<-dN.o.1];refine dM.o.mono ?_;rintro e D ⟨aW,aG,rfl,h1,h2,ap,bl,cL⟩;have e7:=qV h1 h2 ap bl cL;go_wp2_with fail;go_ret;obtain⟨h1,h2,ap,bl,cL⟩:=e7.o;exact⟨aW,aG,rfl,h1,h2,ap,cM dN.o.2.size bl,dN.o.2.next' cL⟩
def i2 (am X:Nat) (W W':O):Prop:=bQ am W W'/\∀k cs t fr,k≠X->V W k cs t fr->V W' k cs t fr
theorem i2.refl (am X:Nat) (W:O):i2 am X W W:=⟨bx _ _,λ_ _ _ _ _ h=>h⟩
theorem i2.trans {C:O} (h:i2 am X Q ai) (k:i2 am X ai C):i2 am X Q C:=⟨h.1.trans k.1,λi cs t fr h1 h2=>k.2 i cs t fr h1 (h.2 i cs t fr h1 h2)⟩
theorem i2.bg (h:ae Q ai) (h1:am<=Q.heap.size):i2 am X Q ai:=⟨h.mono h1,λ_ _ _ _ _ K=>K.aq h⟩
theorem i2.put {l:Nat} {o dt:Obj} (aw:am<=l) (aQ:W.heap[l]? =A o) (ah:o.isCells=ao):i2 am X W (W.putObj l dt):=⟨vx (bx _ _) aw,λ_ _ _ _ _ K=>(rJ aQ ah K).trans K⟩
theorem cR.adH {v:ac} (h:cR w v L) (K:i2 am X w D) (ak:∀k,v.ownBlock=A k->k≠X):cR D v L:=by
 obtain⟨a,cap,e,h1,h2,ap⟩:=h;refine⟨a,cap,e,h1,h2,λi ag=>?_⟩;obtain⟨b,off,cs,t,fr,a8,hb,ah⟩:=ap i ag;exact⟨b,off,cs,t,fr,a8,K.2 _ _ _ _ (ak b (by rw[e,a8];rfl)) hb,ah⟩
theorem ast (zR:Nat) {P:Program} {l:Nat} {args:Array ac} {aj:mA->O->Prop} (h:o4 dY m P l args W aj):o4 dY zR P l args W aj:=by
 obtain⟨fn,tmps,assign,body,az,cf⟩:=h;exact⟨fn,tmps,assign,body,az,cf.1,λR cs _=>cf.2 R cs (λd h=>by cases h)⟩
theorem asu (m:Nat) (hm:1<=m) (am X fv UO gd N af:Nat) (g:Raw) (z2:g.arcs.length<=1000000) (W:O) (dC:am<=W.heap.size) (iM:Nat) (jm:∀args w,(gM iM args).run aa w= .ok (.enter iM args) w) (eN:Array ac) (h:Nat->Bool)
 (fH:∀u,i2 am X W u->∀k,k<g.arcs.length->aE aa iM (#[r c k]++eN) u λe D=>e=au (aA (h k))/\ae u D)
 (dE:eq W af g) (ng:V W fv #[J af 0] 62) (asv:V W UO #[.func (.yield gd) #[] #[]] 90) (hy:fv≠X/\UO≠X)
 (bG:List Int->O->Prop) (ee:∀s Q C,bG s Q->ae Q C->bG s C)
 (ei:∀pre x d9,bG pre d9->pre.length<N->o4 dY (m-1) aa gd (iI x) d9 λe W'=>e=au (aA ad)/\bG (pre++[x]) W'/\i2 am X d9 W')
 (zd:List Int) (Gv:zd.length+g.arcs.length<=N) (h0:bG zd W):
 ge dY m aa 109 #[.func (.func iM) #[] eN,J fv 0,J UO 0] W λe W'=>e=au (aA ad)/\bG (zd++f0 h g.arcs.length) W'/\i2 am X W W':=by
 obtain⟨M,dU⟩:=al g.arcs.length;have rN:=I (show aE aa 63 #[J af 0] W λe D=>e=au (r c M)/\D=W from by rw[dU];exact Hg af g W dE);rw[<-dU] at fH Gv z2⊢;have aV:=aR ng 0;have hM:=I (show bG (zd++f0 h 0) W from by simpa [f0] using h0);have dN:=I (i2.refl am X W);clear dU;refine kL func109 rfl trivial ?_ rfl;simp only[ntmps109,g0,fV,gp,gA,g1,gI,gJ,gK,gL,f1,fW];gi_wp2_with fail;refine⟨trivial,?_⟩;refine yH (im.2 rN.o) ?_;gi_wp2_with fail;gi_loopw [8] (λi wr=>∃(k:Nat),k<=M/\i=r c k/\aM (i2 am X W wr)/\aM (bG (zd++f0 h k) wr)) (λi _=>M-(cu i).toNat)
 ·exact⟨0,cQ _,rfl,dN,hM⟩
 ·obtain⟨k,K,rfl,hk,ky⟩:=hrel;by_cases a0:k<M
  ·have ie:(k:Int)<M:=G;have iZ:=I (fH wr hk.o k a0);have hP:am<=wr.heap.size:=cM dC hk.o.1.size;cases aO:h k with
   |false=>
    rw[aO] at iZ;have oJ:=I (show f0 h (k+1)=f0 h k by rw[wu,aO];simp);gi_wp2_with fail;refine jb iZ.o λaJ a5=>?_;have uq:=I (hk.o.trans (i2.bg (X:=X) a5 hP));have AH:=I (show bG (zd++f0 h (k+1)) aJ from by rw[oJ.o];exact ee _ _ _ ky.o a5);gi_wp2_with fail;refine⟨λ_ h=>(by cases h),?_⟩;gi_wp2_with fail;go_roundw
    ·exact⟨k+1,G,by go_num,uq,AH⟩
    ·simp[cu];omega
   |true=>
    rw[aO] at iZ;have oJ:=I (show zd++f0 h (k+1)=(zd++f0 h k)++[(k:Int)] by rw[wu,aO,if_pos rfl,Di]);have sB:(zd++f0 h k).length<N:=by
     have:=D5 h k;have:=Gv;rw[gW];omega
    gi_wp2_with fail;refine jb iZ.o λaJ a5=>?_;have s_:=hk.o.trans (i2.bg (X:=X) a5 hP);have IG:=aR (s_.2 _ _ _ _ hy.2 asv) 0;have Cv:=ee _ _ _ ky.o a5;obtain⟨fn,tmps,assign,body,az,cf⟩:=ei _ (k:Int) aJ Cv sB;dsimp only[iI] at az;gi_wp2_with fail;refine cf.mono ?_;rintro e dI ⟨rfl,ho,dv⟩;have hQ:=I (s_.trans dv);have lf:=I (show bG (zd++f0 h (k+1)) dI from by rw[oJ.o];exact ho);gi_wp2_with fail;go_roundw
    ·exact⟨k+1,G,by go_num,hQ,lf⟩
    ·simp[cu];omega
  ·obtain rfl:k=M:=G;gi_wp2;go_ret;exact⟨rfl,ky.o,hk.o⟩
theorem asw (R:Int) (af dk:Nat) (w:O):aE aa 64 #[J af 0,J dk 0,r c R] w λe D=>e=au (.func (.func 108) #[] #[J w.heap.size 0,J (w.heap.size+1) 0,J (w.heap.size+2) 0])/\
 D=((w.alloc (an #[J af 0] 62)).alloc (an #[J dk 0] 66)).alloc (an #[r c R] 3):=by
 have g_:=@hJ aa;go_in;go_wp2_with fail;go_ret;exact⟨rfl,rfl⟩
theorem asx (m:Nat) (hm:2<=m) (am X af dk cc a' bk N:Nat) (g:Raw) (hf:jz g N) (of:List Int) (many R:Int) (w:O) (dC:am<=w.heap.size) (adI:X<w.heap.size) (hL:of.length=N)
 (dj:∀u,i2 am X w u->eq u af g/\mw u dk of many) (h1:V w cc #[J af 0] 62) (h2:V w a' #[J dk 0] 66) (ap:V w bk #[r c R] 3) (hy:cc≠X/\a'≠X/\bk≠X):
 tk m 108 #[J cc 0,J a' 0,J bk 0] iI (i2 am X) (λce _=>∀i,OF g of R i->(i:Int)∈ce) 2000 w:=λgd bG W hb ee ei h0=>by
 have hP:=hb.size;obtain⟨M,dU⟩:=al g.arcs.length;have Ky:=hf.po;obtain⟨bh,dW⟩:=al W.heap.size;obtain⟨aI,hV⟩:=al (W.alloc (an #[.func (.yield gd) #[] #[]] 90));have nA:=dx hV;have asy:=eK hV dW;have xz:i2 am X w aI:=(i2.bg hb dC).trans (i2.bg nA G);have adJ:bh≠X:=G;have UP:am<=aI.heap.size:=cM dC xz.1.size;have asz:=ee _ _ _ h0 nA;have Cl:∀u,i2 am X aI u->V u cc #[J af 0] 62 (0,0)/\V u a' #[J dk 0] 66 (0,0)/\V u bk #[r c R] 3 (0,0)/\V u bh #[.func (.yield gd) #[] #[]] 90 (0,0)/\eq u af g/\mw u dk of many/\am<=u.heap.size:=λu Z=>by
  have wX:=xz.trans Z;obtain⟨q1,q2⟩:=dj u wX;exact⟨wX.2 _ _ _ _ hy.1 h1,wX.2 _ _ _ _ hy.2.1 h2,wX.2 _ _ _ _ hy.2.2 ap,Z.2 _ _ _ _ adJ asy,q1,q2,cM UP Z.1.size⟩
 have ju:=I (λk pre x d9 (av:bG pre d9) (aw:pre.length<2000)=>ast k (ei pre x d9 av aw));have Gk:∀(iM:Nat) (jm:∀args w,(gM iM args).run aa w= .ok (.enter iM args) w) (eN:Array ac) (h:Nat->Bool) (u:O),i2 am X aI u->(∀ed,i2 am X u ed->∀k,k<M->aE aa iM (#[r c k]++eN) ed λe D=>e=au (aA (h k))/\ae ed D)->
  ∀pre,pre.length+M<=2000->bG pre u->ge dY (m-1) aa 109 #[.func (.func iM) #[] eN,J cc 0,J bh 0] u λe W'=>e=au (aA ad)/\bG (pre++f0 h M) W'/\i2 am X u W':=λiM jm eN h u Z fH pre ar av=>by
  obtain⟨q1,q2,bm,cZ,ek,jg,s9⟩:=Cl u Z;rw[dU] at ar fH⊢;exact asu (m-1) G am X cc bh gd 2000 af g G u s9 iM jm eN h fH ek q1 cZ ⟨hy.1,adJ⟩ bG ee (λpre x d9 av aw=>ju.o _ pre x d9 av aw) pre ar av
 obtain⟨aj,cf⟩:=al (Cy g of R);have xA:aj.length<=12:=by
  rw[cf];unfold Cy;have:=D5 (EM g of R) of.length;have:=hf.jo;omega
 have OX:∀k (h:k<aj.length),∃b:Nat,aj[k]=(b:Int)/\b<N:=λk h=>by
  have xx:aj[k]∈Cy g of R:=by rw[<-cf];exact gB h
  obtain⟨n,e,aC,_⟩:=D6.1 xx;exact⟨n,e,G⟩
 obtain⟨bT,hU⟩:∃bT:Nat->List Int->Prop,bT=λk pre=>pre.length<=M*(k+1)/\(∀i (h:i<g.arcs.length),p3 of g.arcs[i].1=R->p3 of g.arcs[i].2.1=R->(i:Int)∈pre)/\∀j (h:j<aj.length),j<k->∀i (h2:i<g.arcs.length),xY g aj[j] g.arcs[i]->(i:Int)∈pre:=⟨_,rfl⟩;have adK:bT 0 ([]++f0 (CA g of R) M):=by
  rw[hU];refine⟨by have:=D5 (CA g of R) M;simpa using this,λi ag br a4=>?_,λj h av=>by omega⟩;obtain⟨a1,a2,_⟩:=hf.ok.aS _ (gB ag);have aC:=hf.nodes;refine D6.2 ⟨i,rfl,G,?_⟩;unfold CA;rw[oY ag,OG (v:=g.arcs[i].1) ⟨a1.1,G⟩,OG (v:=g.arcs[i].2.1) ⟨a2.1,G⟩,br,a4];simp
 have xZ:=I (Gk 110 (fg func110 bq rfl) #[J cc 0,J a' 0,J bk 0] (CA g of R) aI (i2.refl _ _ _) (λed Z k K=>by
  obtain⟨q1,q2,bm,cZ,ek,jg,s9⟩:=Cl ed Z;exact aq_ ek jg q1 q2 bm G) [] (by simp;omega) asz)
 have asA:∀k pre (aG:List Bool),k<aj.length->bT k pre->aG.length=M->(∀(K:k<aj.length) i (h:i<g.arcs.length),xY g aj[k] g.arcs[i]->aG[i]? =A ad)->bT (k+1) (pre++f0 (λi=>aG[i]?.getD ao) M)/\pre.length+M<=2000:=λk pre aG K aO aw ht=>by
  rw[hU] at aO⊢;obtain⟨q1,q2,bm⟩:=aO;refine⟨⟨?_,λi ag br a4=>fJ.2 (.inl (q2 i ag br a4)),λj av yu i ag adL=>?_⟩,?_⟩
  ·rw[gW,Nat.mul_add M (k+1) 1];have:=D5 (λi=>aG[i]?.getD ao) M;omega
  ·by_cases e:j<k
   ·exact fJ.2 (.inl (bm j av e i ag adL))
   ·obtain rfl:j=k:=G;refine fJ.2 (.inr (D6.2 ⟨i,rfl,G,?_⟩));rw[ht av i ag adL];rfl
  ·have:M*(k+1)<=84*12:=QP G G;omega
 have asB:∀pre,bT aj.length pre->∀i,OF g of R i->(i:Int)∈pre:=λpre aO i ag=>by
  rw[hU] at aO;obtain⟨q1,q2,bm⟩:=aO;obtain⟨h,⟨br,a4⟩|⟨b,aX,a5⟩⟩:=ag
  ·exact q2 i h br a4
  ·have xx:=aqQ hf.ok (by rw[hL];exact hf.nodes) aX;rw[<-cf] at xx;obtain⟨j,av,e⟩:=Bd xx;exact bm j av av i h (by have q:=a5;rw[<-e] at q;exact q)
 have eU:=db dU Ky;have cW:=I cf;have kx:=I hV;have g6:=I dW;have OY:=I (show X<aI.heap.size by have:=xz.1.size;have:=nA.size;omega);have aEd:1<=m:=G;have g_:=@hJ aa;clear dU dW hV cf;refine kL aB8 rfl trivial ?_ rfl;simp only[ntmps108,g0,fV,gp,gA,g1,gI,gJ,gK,gL,f1,fW];gi_wp2_with fail;rw[<-kx.o,<-g6.o];refine⟨trivial,?_⟩;refine xZ.o.mono ?_;rintro e dn ⟨rfl,yy,e6⟩;obtain⟨q1,q2,bm,cZ,ek,jg,s9⟩:=Cl dn e6;have aV:=aR q1 0;have bb:=aR q2 0;have ch:=aR bm 0;have JG:=I (aqM dk af g of many R dn ek jg hf.ok (bI eU.o) (g3 hL hf.jo) (by rw[hL];exact hf.nodes));gi_wp2_with fail;refine pD JG.o ?_;rintro e kh ⟨adM,rfl,ar,ck⟩;rw[<-cW.o] at ar;have ze:=jv rfl ar;obtain⟨ot,hs,aK,_⟩:=id ze;subst aK;have dv:i2 am X aI kh:=e6.trans (i2.bg ck (cM UP e6.1.size));have vL:=I (show cR kh (E ot aj.length hs) aj/\∀k,(iB ot aj.length hs).ownBlock=A k->k≠X from⟨ze,λk K=>by have:=(ar.lt k K).1;have:=e6.1.size;have:=OY.o;omega⟩);have hM:=I (show∃pre,bT 0 pre/\bG pre kh from⟨_,adK,ee _ _ _ yy ck⟩);have sT:=I (i2.refl am X kh);gi_wp2_with fail;gi_loopw [19] (λi wr=>∃(k:Nat),k<=aj.length/\i=r c k/\aM (i2 am X kh wr)/\aM (∃pre,bT k pre/\bG pre wr)) (λi _=>aj.length-(cu i).toNat)
 ·exact⟨0,cQ _,rfl,sT,hM⟩
 ·obtain⟨k,K,rfl,hk,ky⟩:=hrel;by_cases a0:k<aj.length
  ·have ie:(k:Int)<aj.length:=G;have aEe:=xA;have xz:i2 am X aI wr:=dv.trans hk.o;obtain⟨q1,q2,bm,cZ,ek,jg,s9⟩:=Cl wr xz;obtain⟨b,adN,asC⟩:=OX k a0;obtain⟨asD,off,UQ,UR⟩:=(vL.o.1.adH hk.o vL.o.2).at k a0;rw[adN] at UR;subst UQ;have aV:=aR q1 0;have asE:=I (show aE aa 113 #[J af 0,r c b] wr λe D=>∃aW aG,e=au (E (A (B aW 0)) M M)/\V D aW (iL aG) 4 (0,0)/\aG.length=M/\(∀i (h:i<g.arcs.length),xY g b g.arcs[i]->aG[i]? =A ad)/\wr.heap.size<=aW/\ae wr D from(ass hf ek asC).mono (by
    rintro e D ⟨aW,aG,rfl,h1,h2,ap⟩;exact⟨aW,aG,by rw[eU.o.1],h1,h2.trans eU.o.1.symm,ap⟩))
   have adO:=I (show X<wr.heap.size by have:=xz.1.size;have:=OY.o;omega);gi_wp2_with fail;refine pD asE.o ?_;rintro e cz ⟨Mp,aG,rfl,xP,xW,EY,aEf,a5⟩;obtain⟨hI,kW⟩:=al (cz.alloc (an #[E (A (B Mp 0)) M M] 186));obtain⟨dc,kX⟩:=al cz.heap.size;have ck:=dx kW;have k8:=eK kW kX;have Of:i2 am X wr hI:=i2.bg (a5.next' ck) (cM UP xz.1.size);have asF:=xz.trans Of;have asG:=xP.aq ck;have abC:dc≠X:=g3 a5.size adO.o;have KA:Mp≠X:=bI adO.o;obtain⟨pre,asH,UM⟩:=ky.o;obtain⟨asI,Gv⟩:=asA k pre aG a0 asH xW (λK i ag ht=>EY i ag (by rw[<-adN];exact ht));have asJ:=I (Gk 114 (fg func114 bq rfl) #[J dc 0] (λi=>aG[i]?.getD ao) hI asF (λed Z k K=>aq' (Z.2 _ _ _ _ abC k8) xW (Z.2 _ _ _ _ KA asG) K) pre Gv (ee _ _ _ UM (a5.next' ck)));have Uy:=I (hk.o.trans Of);have l5:=db kW kX;clear kW kX;gi_wp2_with fail;rw[<-l5.o.2,<-l5.o.1];refine⟨trivial,?_⟩;refine asJ.o.mono ?_;rintro e mG ⟨rfl,ER,lh⟩;have mM:=I (Uy.o.trans lh);have tw:=I (show∃pre,bT (k+1) pre/\bG pre mG from⟨_,asI,ER⟩);gi_wp2_with fail;go_roundw
   ·exact⟨k+1,G,by go_num,mM,tw⟩
   ·simp[cu];omega
  ·obtain rfl:k=aj.length:=G;gi_wp2;go_end0;obtain⟨pre,aO,av⟩:=ky.o;exact⟨⟨_,rfl⟩,pre,asB pre aO,av⟩
theorem asK:(prog.info? 3).map (λi=>(i.zero,i.size,i.bytes))=A (A (r c 0),1,8):=bq
theorem asL (m:Nat) (hm:1<=m) (lx cN X n1 p g n b':Nat) (l:List UInt8) (U:Int) (w:O) (hb:fE w p g n b' l) (B6:p<n1/\p≠X) (CB:g<n1/\g≠X) (OI:V w lx #[J p 0] 67) (n3:V w cN #[r c U] 3) (CC:lx<n1/\lx≠X) (OJ:cN<n1/\cN≠X):
 SeqStopsK dY m aa 304 #[J lx 0,J cN 0] (λx:Nat=>#[kK c (x:Nat)]) (vG X n1) (λce=>ce=mx n b' l U b') (λpre=>pre<+:mx n b' l U b') (mx n b' l U b').length w:=λL bG iu W hW ee _ ei h0=>
 ark m hm L lx cN X n1 p g n b' l U bG iu (λs Q ai aB mf=>ee s Q ai T aB (arj mf) (λU e=>by cases e)) ei W (hb.later hW) B6 CB (OI.aq hW) (n3.aq hW) CC OJ h0
theorem asM (m:Nat) (hm:3<=m) (ms:Option cp) (U:Int) (b7:List Nat) (asN:b7.length<=67108864) (w:O)
 (hst:SeqStopsK dY (m-1) aa 304 #[J (w.heap.size+1) 0,J (w.heap.size+1+1) 0] (λx:Nat=>#[kK c (x:Nat)]) (vG w.heap.size (w.heap.size+3)) (λce=>ce=b7) (λpre=>pre<+:b7) b7.length
  (((w.alloc (an #[E T 0 0] 41)).alloc (an #[a6 ms] 67)).alloc (an #[r c U] 3))):
 ge dY m aa 209 #[a6 ms,r c U] w λe W'=>∃v,e=au v/\W'.ownsRow w.heap.size 3 1 v b7.length (b7.map λi=>kK c (i:Nat))/\(v=E T 0 0↔b7=[])/\ae w W':=by
 have h1:1<=m:=G;obtain⟨eP,ag,fL,gi,gt⟩:=m6 asK;refine sL func209 rfl trivial ?_ rfl;simp only[ntmps209,g0,fV,gp,gA,g1,gI,gJ,gK,gL,f1,fW];gi_wp2_with(refine⟨trivial,?_⟩;gi_at_call 274;refine(arh dY (m-1) trivial rfl ms U _).mono ?_;rintro e D ⟨rfl,rfl⟩)
 have n9:=Boxed.new w 41 (E T 0 0);have DZ:ae w (((w.alloc (an #[E T 0 0] 41)).alloc (an #[a6 ms] 67)).alloc (an #[r c U] 3)):=(((bx w.heap.size w).alloc (bY _) _).alloc a3 _).alloc (by simp;omega) _;refine Ma (F:=dY) rfl h1 (gf:=304) (lb:=#[J (w.heap.size+1) 0,J (w.heap.size+1+1) 0]) rfl trivial (fg func304 bq rfl)
  hst vG.trans (vG.put a3) (bx _ _) (λ_=>rfl)
  (λpre W=>(∃v,Boxed W w.heap.size 41 v/\W.ownsRow w.heap.size 3 1 v pre.length (pre.map λi=>kK c (i:Nat))/\((v=E T 0 0↔pre=[])/\∀zf,v.ownBlock=A zf->w.heap.size+3<=zf))/\(ae w W/\w.heap.size+3<=W.heap.size))
  (λ_ _ _=>False)
  (XU (Own.from (holdsRow_own w.heap.size w.heap.size 41 3 1 (λpre:List Nat=>pre.length) (λpre=>pre.map λi=>kK c (i:Nat)) (λpre v=>(v=E T 0 0↔pre=[])/\∀zf,v.ownBlock=A zf->w.heap.size+3<=zf)) _) (XU (ownFrom_below (bY _) (by simp;omega)) (Own.from (λs Q ai row aB hg ar=>cM aB hg.size) _)))
  (λ_ _ _ _ _ aB _ _=>aB)
  ⟨⟨_,(n9.alloc _).alloc _,oG _ _ _ _,a3,by simp[Value.ownBlock]⟩,DZ,a3⟩
  (λx=>{tmps:=#[a6 ms,r c U,dr,dr,J w.heap.size 0,r c (x:Nat),a6 ms,r c U,.func (.func 304) #[] #[J (w.heap.size+1) 0,J (w.heap.size+1+1) 0],r c (x:Nat),dr,dr,dr,dr,dr],defers:=[]}) ?assign ?body ?done ?stop
 case assign=>
  intro l x W aT dQ;gi_wp2;exact dQ
 case body=>
  rintro i3 pre x W ⟨⟨v,aK,es,Kl,adP⟩,cd,asO⟩ a0;obtain⟨aN,eu,dw,rfl⟩:∃a n R,v=E a n R:=by
   rcases es.2 with⟨rfl,_⟩|⟨zf,cap,cur,rfl,_⟩
   ·exact⟨_,_,_,rfl⟩
   ·exact⟨_,_,_,rfl⟩
  have ah:=aK.cell;gi_wp2_with(gi_at_builtin;refine FR (F:=_) _ rfl _ _ 41 rfl w.heap.size 3 eP (r c 0) 1 8 nG ag fL gi gt rfl bj _ _ _ rfl (es.alloc _) (B W.heap.size 0) 1 1 [r c (x:Nat)] rfl rfl (FT _ _ _) (by simp[Value.oneCell']) (by unfold maxLen;omega) G (by have:=cd.size;simp;omega) ?_;intro ca ay ow kH _ gP;obtain⟨qi,nl,rfl⟩:=FU ow;obtain⟨h5,lw,iq,e6,a5⟩:=aK.appended bj es cd.size (bY _) ow kH;have pI:=h5.cell;have xS:=h5.frozen)
  refine⟨e6.from _,⟨a5.size,λk K ak=>?_⟩,⟨_,lw,by simpa using iq,a3,λzf hg=>?_⟩,cd.trans a5,cM asO a5.size⟩
  ·refine(d7 _ _ _ _ (show k≠w.heap.size from ak)).trans ((kH.block k (by simp;omega) (λe=>?_)).trans (px W _ k G));have:=adP k e.symm;omega
  ·rcases gP with e|e
   ·exact adP zf (e▸hg)
   ·rw[e] at hg;have:(W.alloc (an #[r c (x:Nat)] 3)).heap.size=zf:=by simpa using hg
    simp at this;omega
 case done=>
  rintro aF ce W fh rfl ⟨⟨v,aK,es,Kl,_⟩,cd,_⟩ dQ;obtain⟨aN,eu,dw,rfl⟩:∃a n R,v=E a n R:=by
   rcases es.2 with⟨rfl,_⟩|⟨zf,cap,cur,rfl,_⟩
   ·exact⟨_,_,_,rfl⟩
   ·exact⟨_,_,_,rfl⟩
  have ah:=aK.cell;have hf:=aK.frozen;gi_wp2;have lw:=aK.set (E aN eu dw);have mo:=(QN W (B w.heap.size 0) (E aN eu dw)).same aF _ dQ rfl;refine⟨a3,.inl ⟨_,_,rfl,Xn mo,?_⟩⟩;have SV:Boxed ((W.setCell (B w.heap.size 0) (E aN eu dw)).putObj aF (.deferred T)) w.heap.size 41 (E aN eu dw):=lw.kept (grownBy_putObj' _ aF (.deferred T)) (λe=>by cases e;rw[show _=_ from lw] at mo;cases mo);have wR:=SV.cell;exact⟨E aN eu dw,by simp[gq,wR,go_sem],E aN eu dw,rfl,ownsRow_putObj (es.kept (grownBy_setCell' W w.heap.size (E aN eu dw)) (.inr (aK.not_row bj es).symm)) _ mo rfl,Kl,(cd.setCell (p:=B w.heap.size 0) (bY _) _).trans (L' (w:=w) (bY _) _ aF _ _ (by simp at fh;omega) mo rfl rfl)⟩
 case stop=>
  rintro aF R pre W _ _ h _;exact h.elim
theorem asP (m:Nat) (hm:3<=m) (p g n b':Nat) (l:List UInt8) (U:Int) (w:O) (h:fE w p g n b' l):
 ge dY m aa 209 #[J p 0,r c U] w λe W'=>∃v,e=au v/\W'.ownsRow w.heap.size 3 1 v (mx n b' l U b').length ((mx n b' l U b').map λi=>kK c (i:Nat))/\(v=E T 0 0↔mx n b' l U b'=[])/\ae w W':=by
 have oz:=h.later ((((bx w.heap.size w).alloc (bY _) (an #[E T 0 0] 41)).alloc a3 (an #[J p 0] 67)).alloc (by simp;omega) (an #[r c U] 3));have aX:V (((w.alloc (an #[E T 0 0] 41)).alloc (an #[J p 0] 67)).alloc (an #[r c U] 3)) (w.heap.size+1) #[J p 0] 67:=by
  have:=(V.new (w.alloc (an #[E T 0 0] 41)) #[J p 0] 67 (0,0)).alloc (an #[r c U] 3)
  rwa[d8] at this
 have a5:V (((w.alloc (an #[E T 0 0] 41)).alloc (an #[J p 0] 67)).alloc (an #[r c U] 3)) (w.heap.size+1+1) #[r c U] 3:=by
  have:=V.new ((w.alloc (an #[E T 0 0] 41)).alloc (an #[J p 0] 67)) #[r c U] 3 (0,0)
  rwa[d8,d8] at this
 have nm:=h.head.lt;have hT:=h.body.lt;have Ho:=h.wide;have asN:(mx n b' l U b').length<=b':=by
  unfold mx;exact cM (aiA _ _) a3
 exact asM m hm (A (B p 0)) U (mx n b' l U b') G w (asL (m-1) G (w.heap.size+1) (w.heap.size+1+1) w.heap.size (w.heap.size+3) p g n b' l U _ oz ⟨G,G⟩ ⟨G,G⟩ aX a5 ⟨G,G⟩ ⟨G,G⟩)
theorem adQ {aj dp:Nat} (cf:aj<n) (bS:dp<b'):m3 n b' l aj dp=Ko ((b'+7)/8) l aj dp:=by
 unfold m3 Ko;rw[decide_eq_true (show(0:Int)<=(aj:Nat)/\((aj:Nat):Int)<n/\(0:Int)<=(dp:Nat)/\((dp:Nat):Int)<b' by omega),XR,ko,ko]
theorem asQ {U i:Int} (h:m3 n b' l U i=ad):0<=U/\U<n/\0<=i/\i<b':=by
 unfold m3 at h;rw[tH,decide_eq_true_iff] at h;exact h.1
theorem asR {i3:List UInt8} {aj dp:Nat} (cf:aj<n) (bS:dp<b') (h:Un n ((b'+7)/8) l aj dp ad i3):(∀U i,m3 n b' l U i=ad->m3 n b' i3 U i=ad)/\m3 n b' i3 (aj:Nat) (dp:Nat)=ad:=by
 have h9:dp<8*((b'+7)/8):=G;refine⟨λU i hb=>?_,?_⟩
 ·obtain⟨a1,a2,dX,jc⟩:=asQ hb;obtain⟨R',rfl⟩:=r6 a1;obtain⟨OZ,rfl⟩:=r6 dX;rw[adQ G G] at hb⊢;rw[h.2 R' G OZ G];split
  ·rfl
  ·exact hb
 ·rw[adQ cf bS,h.2 aj cf dp h9,if_pos ⟨rfl,rfl⟩]
structure US (w:O) (bF du bs many:Nat) (g:Raw) (of:List Int) (k:Nat) (wr:O):Prop where
 below:ae w wr
 box:V wr bF #[J du 0] 67
 bits:∃l,fE wr du bs many g.arcs.length l/\∀R:Nat,R<k->rg g of (R:Nat) (x0 many g.arcs.length l (R:Nat))
structure UT (w fQ:O) (bF z du bs many:Nat) (g:Raw) (of:List Int) (k:Nat) (pre:List Int) (W:O):Prop where
 below:ae w W
 a_:i2 w.heap.size bs fQ W
 rs:∀j,j<z->j≠bs->W.heap[j]? =fQ.heap[j]?
 box:V W bF #[J du 0] 67
 EZ:V W z #[r c (k:Nat)] 3
 bits:∃l,fE W du bs many g.arcs.length l/\(∀R:Nat,R<k->rg g of (R:Nat) (x0 many g.arcs.length l (R:Nat)))/\∀x∈pre,0<=x->x<g.arcs.length->m3 many g.arcs.length l (k:Nat) x=ad
theorem asS {l:Nat} {o dt:Obj} (aQ:Q.heap[l]? =A o) (ah:o.isCells=ao) {L:List UInt8} (h:fE Q p bs n b' L):fE (Q.putObj l dt) p bs n b' L:=
 ⟨(rJ aQ ah h.head).trans h.head,(rJ aQ ah h.body).trans h.body,h.ne,h.AJ,h.wide,h.rows,h.cr⟩
theorem rg.up {R:Int} {a b:List Bool} (h:rg g of R a) (aw:b.length=a.length) (Z:∀i:Nat,a[i]? =A ad->b[i]? =A ad):rg g of R b:=
 ⟨aw.trans h.len,λn aC br a4=>Z n (h.inside n aC br a4),λx ak n aC ht=>Z n (h.tight x ak n aC ht)⟩
theorem asT {i3:List UInt8} (h:∀U i,m3 n b' l U i=ad->m3 n b' i3 U i=ad) (R:Int):∀i:Nat,(x0 n b' l R)[i]? =A ad->(x0 n b' i3 R)[i]? =A ad:=λi ag=>by
 have a0:i<b':=by have:=(r4.1 ag).1;rwa[Hu] at this
 rw[Ur a0] at ag⊢;exact congrArg A (h _ _ (eT ag))
theorem asU (m:Nat) (hm:4<=m) (hf:jz g N) (dE:eq w af g) (ah:mw w dk of (many:Nat)) (hL:of.length=N) (adR:1<=N) (UU:many<=12):ge dY m aa 22 #[J af 0,J dk 0] w λe D=>∃du bs l,e=au (J du 0)/\fE D du bs many g.arcs.length l/\(∀R:Nat,R<many->rg g of (R:Nat) (x0 many g.arcs.length l (R:Nat)))/\ae w D:=by
 have h1:1<=m:=G;obtain⟨M,dU⟩:=al g.arcs.length;have Ky:M<=84:=bI hf.po;have Kn:=I (adj dE ah (by rw[hL];exact hf.nodes) G (bI hf.jo));have UV:aM (∀u,ae w u->eq u af g/\mw u dk of (many:Nat)):=λu Z=>⟨dE.a_ (bu.bg Z),ah.a_ (bu.bg Z)⟩;have OH:=I (λu (Z:ae w u)=>ac_ dk of (many:Nat) u (UV.o u Z).2);have rN:aM (∀u,ae w u->aE aa 63 #[J af 0] u λe D=>e=au (r c (M:Nat))/\D=u):=λu Z=>by rw[dU];exact Hg af g u (UV.o u Z).1
 have z6:=I (λu=>arc many M u G G (by
  have:many*((M+7)/8)<=12*12:=QP UU G;omega))
 have dq:=I hf;have EX:=db dU Ky;have fG:=I hL;have g_:=@hJ aa;clear hL dU;refine sL func22 rfl trivial ?_ rfl;simp only[ntmps22,g0,fV,gp,gA,g1,gI,gJ,gK,gL,f1,fW];gi_wp2_with fail;refine jb Kn.o λay aX=>?_;have jf:=I (OH.o ay aX);have jL:=I (rN.o ay aX);have ft:=I aX;gi_wp2_with fail;refine jb jf.o λeM h=>?_;subst eM;gi_wp2_with fail;refine jb jL.o λeM h=>?_;subst eM;gi_wp2_with fail;refine pD (z6.o ay) ?_;rintro e aJ ⟨du,bs,rfl,oz,aEg,pL,a5⟩;obtain⟨bF,eV⟩:=al aJ.heap.size;obtain⟨ba,cg⟩:=al (aJ.alloc (an #[J du 0] 67));have ck:=dx cg;have k5:=eK cg eV;have GR:=ft.o.next' (a5.next' ck);have bZ:=I (show US w bF du bs many g of 0 ba from⟨GR,k5,_,by rw[<-EX.o.1];exact oz.later ck,λR ah=>by omega⟩);have B1:=I (show w.heap.size<=bs/\w.heap.size<=bF/\bF≠bs from⟨cM ft.o.size pL,by rw[eV];exact cM ft.o.size a5.size,bI oz.body.lt⟩);have pT:=I (OH.o ba GR);have h4:=db cg eV;clear cg eV;gi_wp2_with fail;rw[<-h4.o.2,<-h4.o.1];refine jb pT.o λeM h=>?_;subst eM;gi_wp2_with fail;refine Xo (λa wr=>∃(k:Nat) (cz hI mG qq t8 u8 xD oh D7 xp wb xq Bv u16 Bw rr zJ zK zL zM xr zN zO F' Ga Gb Gc Gd u32:ac) (ds:List Deferred),a={tmps:=#[J af 0,J dk 0,cz,hI,mG,J bF 0,qq,t8,u8,xD,oh,D7,xp,wb,xq,Bv,u16,Bw,r c (many:Nat),rr,zJ,zK,zL,zM,xr,zN,zO,F',Ga,Gb,Gc,Gd,u32],defers:=ds}/\rr=r c (k:Nat)/\k<=many/\kq w.heap.size wr ds/\US w bF du bs many g of k wr) (λa _=>many-(cu (a.tmps.getD 19 dr)).toNat) ?_ ?_
 ·exact⟨0,_,_,_,_,_,_,_,_,_,_,_,_,_,_,_,_,_,_,_,_,_,_,_,_,_,_,_,_,_,[],rfl,rfl,cQ _,trivial,bZ.o⟩
 rintro _ wr ⟨k,cz,hI,mG,qq,t8,u8,xD,oh,D7,xp,wb,xq,Bv,u16,Bw,rr,zJ,zK,zL,zM,xr,zN,zO,F',Ga,Gb,Gc,Gd,u32,ds,rfl,rfl,K,jT,hst⟩;by_cases a0:k<many
 ·have ie:(k:Int)<many:=G;obtain⟨z,b5⟩:=al wr.heap.size;obtain⟨bi,d6⟩:=al (wr.alloc (an #[r c (k:Nat)] 3));have c_:=dx d6;have zg:=eK d6 b5;have mL:bi.heap.size=z+1:=by rw[d6,b5];simp
  have wY:=I (asw (k:Nat) af dk bi);rw[mL] at wY;have wC:=aR zg 0;rw[d6,b5] at wC;have yC:=I jT;have lp:=I hst;have fR:=jU b5 mL c_ zg;have mM:=I d6;clear b5 d6;gi_wp2_with fail;rw[<-mM.o,<-fR.o.1];refine jb wY.o λfQ jy=>?_;obtain⟨b5,mL,c_,zg⟩:=fR.o;have cT:=tW jy;have k1:V fQ (z+1) #[J af 0] 62:=by rw[jy,<-mL];exact((V.new _ _ _ _).alloc _).alloc _
  have k2:V fQ (z+1+1) #[J dk 0] 66:=by
   have q:=V.new (bi.alloc (an #[J af 0] 62)) #[J dk 0] 66 (0,0);rw[d8,mL] at q;rw[jy];exact q.alloc _
  have k3:V fQ (z+1+2) #[r c (k:Nat)] 3:=by
   have q:=V.new ((bi.alloc (an #[J af 0] 62)).alloc (an #[J dk 0] 66)) #[r c (k:Nat)] 3 (0,0);rw[d8,d8,mL] at q;rw[jy];exact q
  have kR:fQ.heap.size=z+4:=by rw[jy];simp[mL]
  have O0:=c_.next' cT;have asV:=lp.o.below.size;have B3:ae w fQ:=lp.o.below.trans (O0.mono asV);obtain⟨qJ,adS,asW⟩:=lp.o.bits;have TD:bs<z:=bI adS.body.lt;have iQ:tk (m-1) 108 #[J (z+1) 0,J (z+1+1) 0,J (z+1+2) 0] iI (i2 w.heap.size bs) (λce _=>∀i,OF g of (k:Nat) i->(i:Int)∈ce) 2000 fQ:=
   asx (m-1) G w.heap.size bs af dk (z+1) (z+1+1) (z+1+2) N g dq.o of (many:Nat) (k:Nat) fQ B3.size G fG.o (λu Z=>UV.o u (B3.trans Z.1)) k1 k2 k3 ⟨G,G,G⟩
  have vt:=I iQ;have vL:=I (show UT w fQ bF z du bs many g of k [] fQ from⟨B3,i2.refl _ _ _,λ_ _ _=>rfl,lp.o.box.aq O0,zg.aq cT,qJ,adS.later O0,asW,λx ak=>(by cases ak)⟩);have ts:=jU kR B3 TD O0;clear b5 jy;gi_wp2_with fail;refine J2 h1 (gf:=108) (lb:=#[J (z+1) 0,J (z+1+1) 0,J (z+1+2) 0]) rfl (fg aB8 bq rfl) vt.o (λa b=>a.trans b) (λW l o dt aw aQ ah=>i2.put (bI ts.o.2.1.size) aQ ah) (λ_=>rfl)
   (λce Q l o dt az aw aQ ah=>az)
   (λpre W=>UT w fQ bF z du bs many g of k pre W)
   (λs Q C h hb=>by
    obtain⟨l,q1,q2⟩:=h.bits;exact⟨h.below.trans (hb.mono h.below.size),h.a_.trans (i2.bg hb h.below.size),λj av aC=>(hb.block j (bI h.EZ.lt)).trans (h.rs j av aC),h.box.aq hb,h.EZ.aq hb,l,q1.later hb,q2⟩)
   (λs Q l o dt h aw aQ ah=>by
    obtain⟨i3,q1,q2⟩:=h.bits;exact⟨vx h.below (bI ts.o.2.1.size),h.a_.trans (i2.put (bI ts.o.2.1.size) aQ ah),λj av aC=>(jr (bI ts.o.1)).trans (h.rs j av aC),(rJ aQ ah h.box).trans h.box,(rJ aQ ah h.EZ).trans h.EZ,i3,asS aQ ah q1,q2⟩)
   vL.o ?a1 ?assign ?body ?done
  case assign=>
   intro l x W aT dQ;dsimp only[iI];gi_wp2;exact dQ
  case body=>
   rintro i3 pre x W h Rk;have FW:=aR h.box 0;have wC:=aR h.EZ 0;obtain⟨l,q1,q2,bm⟩:=h.bits;have CH:=I (arf du bs many g.arcs.length l (k:Nat) x ad W q1);have dd:=I h;have hz:=db q2 bm;have UW:=I q1;gi_wp2_with fail;refine⟨trivial,λ_=>G,?_⟩;refine(FQ i3 (im.2 CH.o)).mono ?_;rintro e fK ⟨mr,rfl,a5,e6,hK,kA⟩;have BT:(∀U i,m3 many g.arcs.length l U i=ad->m3 many g.arcs.length mr U i=ad)/\(0<=x->x<g.arcs.length->m3 many g.arcs.length mr (k:Nat) x=ad):=by
    by_cases ak:0<=x/\x<g.arcs.length
    ·obtain⟨dp,rfl⟩:=r6 ak.1;have aB:=hK ⟨G,G,ak.1,ak.2⟩;rw[ko,ko] at aB;obtain⟨p1,p2⟩:=asR a0 (show dp<g.arcs.length by omega) aB;exact⟨p1,λ_ _=>p2⟩
    ·rw[kA (λh=>ak ⟨h.2.2.1,h.2.2.2⟩)];exact⟨λ_ _ h=>h,λh1 h2=>absurd ⟨h1,h2⟩ ak⟩
   have sw:i2 w.heap.size bs W fK:=⟨e6.below dd.o.below.size (λk K=>by rw[K];exact B1.o.1),λk cs t fr b9 hb=>e6.aH hb b9⟩;have eH:aM (∀j,j<z->j≠bs->fK.heap[j]? =fQ.heap[j]?):=λj av aC=>(e6.block j (bI dd.o.EZ.lt) aC).trans (dd.o.rs j av aC);have e7:=I (show UT w fQ bF z du bs many g of k (pre++[x]) fK from⟨dd.o.below.trans sw.1,dd.o.a_.trans sw,eH.o,sw.2 _ _ _ _ B1.o.2.2 dd.o.box,sw.2 _ _ _ _ (bI ts.o.2.2.1) dd.o.EZ,mr,a5,λR ah=>(hz.o.1 R ah).up (by rw[Hu,Hu]) (asT BT.1 _),λy az h0 h1=>by
    rcases fJ.1 az with az|az
    ·exact BT.1 _ _ (hz.o.2 y az h0 h1)
    ·obtain rfl:=f2.1 az;exact BT.2 h0 h1⟩)
   have cw:=db (KeepsFrom.one (ai:=fQ.heap.size) e6 UW.o.body) sw;gi_wp2_with fail;exact⟨cw.o.1,cw.o.2,e7.o⟩
  case done=>
   rintro aF ce W fh ro h ly;obtain⟨l,q1,q2,bm⟩:=h.bits;have hst:US w bF du bs many g of (k+1) W:=⟨h.below,h.box,l,q1,λR ah=>by
    by_cases e:R<k
    ·exact q2 R e
    ·obtain rfl:R=k:=G;exact rg.aqP (Hu _ _ _ _) λi ag=>by
      have KB:=ag.choose;rw[Ur KB,bm _ (ro i ag) G G]⟩
   have jT:=yC.o.aap (D:=W) (λj _ av IJ _=>by
    by_cases e:j=bs
    ·exfalso;have hb:=lp.o.bits.choose_spec.1.body;exact IJ _ _ _ (by rw[e];exact hb)
    ·exact(h.rs j (bI fR.o.1) e).trans (ts.o.2.2.2.block j av)) (g3 ts.o.1 fR.o.1) lp.o.below.size ly
   have cW:=db hst jT;gi_wp2_with fail;refine⟨⟨k+1,_,_,_,_,_,_,_,_,_,_,_,_,_,_,_,_,_,_,_,_,_,_,_,_,_,_,_,_,_,_,rfl,by go_num,G,cW.o.2,cW.o.1⟩,?_⟩;show many-_<many-_;simp[cu];omega
 ·obtain rfl:k=many:=G;have FW:=aR hst.box 0;have cW:=db hst jT;gi_wp2_with fail;refine vc a3 _ _ cW.o.2 λD eQ fi=>?_;obtain⟨l,q1,q2⟩:=cW.o.1.bits;exact⟨J du 0,by simp[gq,results22,go_sem],du,bs,l,rfl,⟨eQ.aH q1.head,eQ.aH q1.body,q1.ne,q1.AJ,q1.wide,q1.rows,q1.cr⟩,q2,cW.o.1.below.trans fi⟩
theorem asX (hf:jz g N) (dE:eq w af g) (ah:mw w dk of (many:Nat)) (hL:of.length=N) (adR:1<=N) (UU:many<=12):aE aa 22 #[J af 0,J dk 0] w λe D=>∃du bs l,e=au (J du 0)/\fE D du bs many g.arcs.length l/\(∀R:Nat,R<many->rg g of (R:Nat) (x0 many g.arcs.length l (R:Nat)))/\ae w D:=
 im.1 (asU 6 G hf dE ah hL adR UU)
theorem asY (b7:List Nat):(b7.map λi=>kK c (i:Nat))=(b7.map λ(i:Nat)=>(i:Int)).flatMap ec:=by
 induction b7 with
 |nil=>rfl
 |cons x U d4=>rw[zy,zy,uJ,d4];rfl
theorem adT {U:Int} {k:Nat}:i∈mx n b' l U k↔i<k/\m3 n b' l U i=ad:=by
 unfold mx;rw[Dj,tI]
theorem asZ (n b':Nat) (l:List UInt8) (U:Int) (k:Nat):(mx n b' l U k).length<=k:=by
 unfold mx;exact cM (aiA _ _) (by rw[tK];exact bY _)
theorem as0 (hb:fE w du bs many M l) (dU:M<=1000) {R:Int} (ah:0<=R/\R<many):aE aa 123 #[J du 0,r c R] w λe D=>∃aW aG,e=au (E (A (B aW 0)) M M)/\V D aW (iL aG) 4 (0,0)/\aG.length=M/\(∀i,i<M->m3 many M l R i=ad->aG[i]? =A ad)/\ae w D:=by
 obtain⟨aW,hT⟩:=al w.heap.size;obtain⟨ay,bA⟩:=al (w.alloc (an (iL (d5 M ao)) 4));have aX:=dx bA;have k1:=eK bA hT;obtain⟨L,hL⟩:=al ((mx many M l R M).map λ(i:Nat)=>(i:Int));have Cz:L.length<=1000:=by rw[hL,iT];have:=asZ many M l R M;omega
 have as1:aM (∀k (h:k<L.length),∃x:Nat,L[k]=(x:Int)/\x<M):=λk h=>by
  have xx:L[k]∈(mx many M l R M).map λ(i:Nat)=>(i:Int):=by rw[<-hL];exact gB h
  obtain⟨x,ak,e⟩:=jB.1 xx;exact⟨x,e.symm,(adT.1 ak).1⟩
 have as2:aM (∀i:Nat,i<M->m3 many M l R i=ad->(i:Int)∈L):=λi ag hg=>by rw[hL];exact jB.2 ⟨i,adT.2 ⟨ag,hg⟩,rfl⟩
 have as3:=I (EP du bs many M l w hb);have as4:=I (Hs du bs many M l w hb);have vL:=I (show aE aa 209 #[J du 0,r c R] ay λe D=>∃v,e=au v/\D.ownsRow ay.heap.size 3 1 v L.length (L.flatMap ec)/\ae ay D from(im.1 (asP 5 G du bs many M l R ay (hb.later aX))).mono (by
  rintro e D ⟨v,rfl,ar,_,fi⟩;refine⟨v,rfl,?_,fi⟩;rw[asY,<-hL] at ar;rw[hL,iT,<-hL];exact ar))
 have jT:=UA M G;have t0:=jU k1 aX (show w.heap.size<=aW by omega) k1.lt;have cX:=db bA hT;obtain⟨bR,aV⟩:=ah;clear bA hT hL;go_in;go_wp2_with fail;refine dl as3.o λeM h=>?_;subst eM;go_wp2_with fail;refine dl as4.o λeM h=>?_;subst eM;go_wp2_with fail;rw[<-cX.o.1,<-cX.o.2];refine vL.o.mono ?_;rintro e aJ ⟨v,rfl,ar,a5⟩;have ze:=jv rfl ar;obtain⟨ot,hs,aK,_⟩:=id ze;subst aK;have cj:=I (show cR aJ (E ot L.length hs) L/\∀k,(iB ot L.length hs).ownBlock=A k->k≠aW from⟨ze,λk K=>by have:=(ar.lt k K).1;have:=t0.o.2.2.2;omega⟩);have fC:=db (t0.o.1.below a5 t0.o.2.2.2) (t0.o.2.1.next' a5);have KC:=I (i2.refl w.heap.size aW aJ);have qI:=I (show V aJ aW (iL (rR (d5 M ao) (L.take 0))) 4 (0,0) from fC.o.1);go_wp2_with fail;go_loopw [23] (λi wr=>∃k:Nat,k<=L.length/\i=r c k/\aM (i2 w.heap.size aW aJ wr)/\aM (V wr aW (iL (rR (d5 M ao) (L.take k))) 4)) (λi _=>L.length-(cu i).toNat)
 ·exact⟨0,G,rfl,KC,qI⟩
 ·obtain⟨k,K,rfl,ty,rb⟩:=hrel;by_cases a0:k<L.length
  ·have ie:(k:Int)<L.length:=G;obtain⟨x,ak,adU⟩:=as1.o k a0;obtain⟨asD,off,UQ,UR⟩:=(cj.o.1.adH ty.o cj.o.2).at k a0;rw[ak] at UR;subst UQ;have hlen:(rR (d5 M ao) (L.take k)).length=M:=by rw[OD,jD]
   have jF:=rb.o.cell x;rw[Ey _ _ G] at jF;have mH:=rb.o.free x (.inr (cQ _));obtain⟨ib,tt⟩:=al ((rR (d5 M ao) (L.take k))[x]'G);rw[<-tt] at jF;have js:(x:Int)<M:=G;have eP:=ew x;have c9:=I (show i2 w.heap.size aW aJ (wr.setCell (B aW x) (aA ad)) from ty.o.trans ⟨(bx _ _).setCell (p:=B aW x) t0.o.2.2.1 _,λj cs t fr b9 hb=>hb.gr _ _ b9⟩);have ef:=I (show V (wr.setCell (B aW x) (aA ad)) aW (iL (rR (d5 M ao) (L.take (k+1)))) 4 (0,0) from by
    have q:=rb.o.set x (aA ad);rw[TK] at q;rw[XO,eA a0,ak];show V _ _ (iL (rR _ (L.take k++[(x:Int)]))) _ _;rw[ac8];exact q)
   clear tt hlen;go_wp2_with fail;go_roundw
   ·exact⟨k+1,G,by go_num,c9,ef⟩
   ·simp[cu];omega
  ·obtain rfl:k=L.length:=G;go_wp2_with fail;go_ret;exact⟨aW,_,rfl,rb.o,by rw[OD,jD],λi ag hg=>ac9 (by rw[jD];exact ag) (by rw[v3];exact as2.o i ag hg),fC.o.2.trans (ty.o.1)⟩
theorem as5 {s t:Nat} {cr:Int} (h:qH w bn dk du af (J bE 0) dF s t cr) (Hv:jq w bE g N b0) (hm:1<=b0.length/\b0.length<=12) (aB:s<N) (ht:t<N):
 aE aa 122 #[J bn 0] w λe D=>∃dG zh fF cV cF g9,e=au (b8 #[E dG zh fF,E cV (pA g9) cF])/\qC g N t g9/\cR D (E cV (pA g9) cF) g9/\ae w D:=by
 have wU:=I (λu (Z:ae w u)=>Hv.a_ (bu.bg Z));have Kt:aM (∀u,ae w u->aE aa 141 #[J bE 0,r c s,r c t,r c cr] u λe D=>∃a Q R,e=au (E a (pA Q) R)/\cR D (E a (pA Q) R) Q/\(∀x∈Q,0<=x/\x<b0.length)/\Q.length<=12/\ae u D):=λu Z=>Uv (wU.o u Z) hm aB ht cr;have cj:aM (∀u,ae w u->u.cell? (B bn 3)=A (J bE 0)/\u.cell? (B bn 5)=A (r c s)/\u.cell? (B bn 6)=A (r c t)/\u.cell? (B bn 7)=A (r c cr)):=λu Z=>by
  obtain⟨_,_,_,bm,_,ek,jg,s9⟩:=(show qH u bn dk du af (J bE 0) dF s t cr from V.below h Z (V.lt h)).cells;exact⟨bm,ek,jg,s9⟩
 have d':=I (bx w.heap.size w);have eW:=I ht;have pZ:=I Hv.G8;go_in;go_wp2_with fail;refine jj (S:=λD=>D.cell? (B bn 3)=A (J bE 0)/\D.cell? (B bn 5)=A (r c s)/\D.cell? (B bn 6)=A (r c t)/\D.cell? (B bn 7)=A (r c cr)) rfl ?_;have ax:=cj.o w.drew (d'.o.drew);change gV _ _ _ _ _ 21 _ _ w.drew;have bf:=I (d'.o.drew);repeat refine fA ?_
 refine fs 19 ?_;refine gE 141 (Kt.o w.drew bf.o) ?_ (aP:=by rintro _ _ ⟨_,_,_,h,_⟩;cases h) (aQ:=by rintro _ ⟨_,_,_,h,_⟩;cases h);rintro e cz ⟨dG,Q,fF,⟨rfl⟩,ak,hA,pO,hb⟩;have ef:=I (bf.o.trans (hb.mono bf.o.size));have O1:=ig ak hA pO
 replace bf:=ef
 have ax:=cj.o cz bf.o;refine⟨ax,?_⟩;simp only[bN,bM,bO];repeat refine fA ?_
 refine i4 ?_;obtain⟨g9,x5⟩:=al (y7 g N (l4 b0 Q) t);have m1:aM (∀u,ae cz u->aE aa 142 #[J bE 0,E dG Q.length fF,r c t] u λe D=>∃a R,e=au (E a g9.length R)/\cR D (E a g9.length R) g9/\ae u D):=λu Z=>by
  rw[x5];exact ac4 (wU.o u (bf.o.next' Z)) (O1.o.1.a_ (bu.bg Z)) (bI O1.o.2.2) O1.o.2.1 eW.o
 have j_:=I (show qC g N t g9 from .inr ⟨l4 b0 Q,UH pZ.o O1.o.2.1,x5⟩);have qI:=bf;have UL:=cj;have as6:aM (∀u,ae cz u->u.cell? (B bn 3)=A (J bE 0)/\u.cell? (B bn 5)=A (r c s)/\u.cell? (B bn 6)=A (r c t)/\u.cell? (B bn 7)=A (r c cr)):=λu Z=>UL.o u (qI.o.next' Z);clear x5;have cj:=as6;have d':=I (bx cz.heap.size cz);go_wp2_with fail;refine jj (S:=λD=>D.cell? (B bn 3)=A (J bE 0)/\D.cell? (B bn 5)=A (r c s)/\D.cell? (B bn 6)=A (r c t)/\D.cell? (B bn 7)=A (r c cr)) rfl ?_;have ax:=cj.o cz.drew (d'.o.drew);change gV _ _ _ _ _ 14 _ _ cz.drew;have bf:=I (d'.o.drew);repeat refine fA ?_
 refine fs 11 ?_;refine gE 142 (m1.o cz.drew bf.o) ?_ (aP:=by rintro _ _ ⟨_,_,h,_⟩;cases h) (aQ:=by rintro _ ⟨_,_,h,_⟩;cases h);rintro e mG ⟨cV,cF,⟨rfl⟩,ak,hb⟩;have ef:=I (bf.o.trans (hb.mono bf.o.size));have as7:=I ak
 replace bf:=ef
 have ax:=cj.o mG bf.o;refine⟨ax,?_⟩;simp only[bN,bM,bO];repeat refine fA ?_
 refine i4 ?_;go_wp2_with fail;refine gh (v:=b8 #[E dG Q.length fF,E cV g9.length cF]) (by simp[gq,results122,go_sem]) rfl ?_;exact⟨dG,_,fF,cV,cF,g9,rfl,j_.o,as7.o,qI.o.next' bf.o⟩
def x8 (x:Fin 5):ac:=match x.1 with|0=>r c 1|1=>r c 16|2=>r c 17|3=>r c 18|_=>r c 19
def x9 (cc bn:Nat) (x:Fin 5):ac:=
 match x.1 with
 |0=> .func (.func 203) #[] #[a6 (A ⟨cc,0,T⟩)]
 |1=> .func (.func 204) #[] #[a6 (A ⟨cc,0,T⟩)]
 |2=> .func (.func 205) #[] #[a6 (A ⟨cc,0,T⟩)]
 |3=> .func (.func 207) #[] #[a6 (A ⟨cc,0,T⟩)]
 |_=> .func (.func 208) #[a6 (A ⟨bn,0,T⟩)] #[]
def CI (cc bn:Nat) (x:Fin 5):Array ac:=#[x8 x,x9 cc bn x]
theorem as8 (m:Nat) (hm:1<=m) (cc bn:Nat) (w:O) (h1:V w cc #[J bn 0] 192):
 tk m 202 #[J cc 0] (CI cc bn) (bQ w.heap.size) (λ_ _=>True) 5 w:=λgd bG W hb ee ei h0=>by
 have bP:=I (λu (Z:ae w u)=>(show u.cell? (B cc 0)=A (J bn 0) from(show V u cc _ _ _ from(Z.block _ h1.lt).trans h1).cell 0));have hM:=db h0 hb;refine kL aB_ rfl trivial ?_ rfl;simp only[ntmps202,g0,fV,gp,gA,g1,gI,gJ,gK,gL,f1,fW];have g_:=@hJ aa;obtain⟨aEh,aEi,aEj,aEk,mi,Nd⟩:=ei [] ⟨0,G⟩ W hM.o.1 a3;dsimp only[CI,x8,x9] at mi;gi_wp2_with fail;refine Nd.mono ?_;rintro e d9 ⟨rfl,CD,pa⟩;have gX:=db CD (hM.o.2.trans pa);obtain⟨aEl,aEm,aEn,aEo,nN,ql⟩:=ei ([]++[⟨0,G⟩]) ⟨1,G⟩ d9 gX.o.1 a3;dsimp only[CI,x8,x9] at nN;gi_wp2_with fail;refine ql.mono ?_;rintro e fK ⟨rfl,yy,e6⟩;have fC:=db yy (gX.o.2.trans e6);obtain⟨aEp,aEq,aEr,aEs,as9,lE⟩:=ei (([]++[⟨0,G⟩])++[⟨1,G⟩]) ⟨2,G⟩ fK fC.o.1 a3;dsimp only[CI,x8,x9] at as9;gi_wp2_with fail;refine lE.mono ?_;rintro e dI ⟨rfl,ho,dv⟩;have hQ:=db ho (fC.o.2.trans dv);obtain⟨aEt,aEu,aEv,aEw,as_,BB⟩:=ei ((([]++[⟨0,G⟩])++[⟨1,G⟩])++[⟨2,G⟩]) ⟨3,G⟩ dI hQ.o.1 a3;dsimp only[CI,x8,x9] at as_;gi_wp2_with fail;refine BB.mono ?_;rintro e ls ⟨rfl,ER,lh⟩;have i9:=db ER (hQ.o.2.trans lh);obtain⟨aEx,aEy,aEz,aEA,as',IX⟩:=ei (((([]++[⟨0,G⟩])++[⟨1,G⟩])++[⟨2,G⟩])++[⟨3,G⟩]) ⟨4,G⟩ ls i9.o.1 a3;dsimp only[CI,x8,x9] at as';have FV:=bP.o ls i9.o.2;gi_wp2_with fail;refine IX.mono ?_;rintro e fQ ⟨rfl,rV,qn⟩;have wF:=db rV (i9.o.2.trans qn);gi_wp2_with fail;go_end0;exact⟨⟨_,rfl⟩,_,trivial,wF.o.1⟩
theorem ata {l:List Bool} {t:cY} (aC:l.length=n) (aw:n<=1000000) (h:V w b (iL l) t):xV w (E (A (B b 0)) n n) l:=
 ⟨A (B b 0),n,by rw[aC],G,by unfold maxLen;omega,λi ag=>⟨b,0,_,t,_,rfl,h,by rw[jC];exact Ey l i ag⟩⟩
theorem atb (m:Nat) (hm:3<=m) {gv:Option cp} (aP:y_ w dk du af g N of many bs l) (CJ:AL w g N (a6 gv) dF) {s t:Nat} (aB:s<N) (ht:t<N) (hst:s≠t) (cr:Int):
 ge dY m aa 72 #[J af 0,a6 gv,aZ #[J dk 0,J du 0],aZ #[r c dF,r c s,r c t,r c cr]] w λe D=>p4 w (c1 g.arcs s t) e D:=by
 have h1:1<=m:=G;obtain⟨cl,iR⟩:=al (c1 g.arcs s t);rw[<-iR];obtain⟨d3,eS⟩:=al w.heap.size;obtain⟨b_,ni⟩:=al (d3+1);obtain⟨dc,kX⟩:=al (b_+1);obtain⟨hN,Ca⟩:=al (dc+1);obtain⟨bn,CE⟩:=al (hN+1);obtain⟨ba,cg⟩:=al ((((w.alloc (an #[J dk 0,J du 0] 140)).alloc (an #[r c dF,r c s,r c t,r c cr] 50)).alloc (an #[r c 0,r c 0,E T 0 0,E T 0 0] 45)).alloc (an #[E T 0 0] 46));have ck:ae w ba:=by rw[cg];exact(((fb).alloc a3 _).alloc (by simp;omega) _).alloc (by simp;omega) _
 have k6:V ba d3 #[J dk 0,J du 0] 140:=by rw[cg,eS];exact(((V.new _ _ _ _).alloc _).alloc _).alloc _
 have k7:V ba b_ #[r c dF,r c s,r c t,r c cr] 50:=by
  have k:=V.new (w.alloc (an #[J dk 0,J du 0] 140)) #[r c dF,r c s,r c t,r c cr] 50 (0,0);rw[d8] at k;rw[cg,ni,eS];exact(k.alloc _).alloc _
 have k8:V ba dc #[r c 0,r c 0,E T 0 0,E T 0 0] 45:=by
  have k:=V.new ((w.alloc (an #[J dk 0,J du 0] 140)).alloc (an #[r c dF,r c s,r c t,r c cr] 50)) #[r c 0,r c 0,E T 0 0,E T 0 0] 45 (0,0);rw[d8,d8] at k;rw[cg,kX,ni,eS];exact k.alloc _
 have k9:V ba hN #[E T 0 0] 46:=by
  have k:=V.new (((w.alloc (an #[J dk 0,J du 0] 140)).alloc (an #[r c dF,r c s,r c t,r c cr] 50)).alloc (an #[r c 0,r c 0,E T 0 0,E T 0 0] 45)) #[E T 0 0] 46 (0,0);rw[d8,d8,d8] at k;rw[cg,Ca,kX,ni,eS];exact k
 have oX:ba.heap.size=bn:=by rw[cg,CE,Ca,kX,ni,eS];simp
 obtain⟨bi,d6⟩:=al (ba.alloc (an #[J dk 0,J du 0,J af 0,a6 gv,r c dF,r c s,r c t,r c cr] 194));have c_:=dx d6;have nZ:qH bi bn dk du af (a6 gv) dF s t cr:=by rw[d6,<-oX];exact V.new _ _ _ _
 have mL:bi.heap.size=bn+1:=by rw[d6];simp[oX]
 obtain⟨cc,je⟩:=al (bn+1);obtain⟨fQ,jy⟩:=al (bi.alloc (an #[J bn 0] 192));have cT:=dx jy;have k1:=eK jy (je.trans mL.symm);have adV:=I (ars bn bi);rw[mL,<-je,<-jy] at adV;have sD:=c_.next' cT;have aEB:=ck.next' sD;have dM:aM (∀u,ae fQ u->V u d3 #[J dk 0,J du 0] 140 (0,0)/\V u b_ #[r c dF,r c s,r c t,r c cr] 50 (0,0)/\V u dc #[r c 0,r c 0,E T 0 0,E T 0 0] 45 (0,0)/\V u hN #[E T 0 0] 46 (0,0)/\qH u bn dk du af (a6 gv) dF s t cr/\V u cc #[J bn 0] 192 (0,0)/\y_ u dk du af g N of many bs l/\AL u g N (a6 gv) dF/\ae w u):=λu Z=>by
  have ap:=sD.next' Z;have h0:=ck.next' ap;exact⟨k6.aq ap,k7.aq ap,k8.aq ap,k9.aq ap,V.below nZ (cT.next' Z) (V.lt nZ),k1.aq Z,aP.later h0,CJ.later h0,h0⟩
 have iQ:tk (m-1) 202 #[J cc 0] (CI cc bn) (bQ fQ.heap.size) (λ_ _=>True) 5 fQ:=as8 (m-1) G cc bn fQ k1;have qw:dF=4\/dF=5:=by
  rcases CJ with h|⟨h,_⟩
  ·exact .inl h
  ·exact .inr h
 have x_:=I aP.dR;have m1:=ig aP.len aP.ec aP.ok;have x1:=I iR;have atc:=I qw;have go:=I (show w.heap.size<=dc/\w.heap.size<=hN by omega);have kR:fQ.heap.size=bn+2:=by rw[jy];simp[mL]
 have UX:=I (show dc<fQ.heap.size/\hN<fQ.heap.size/\dc≠hN by omega);have h4:=I cg;have mM:=db d6 oX;have qE:=jU eS ni kX Ca;have OS:((s:Int)==(t:Int))=ao:=by rw[beq_eq_false_iff_ne];omega
 have atd:=aR k6 0;have ate:=aR k6 1;have adW:=aR k7 0;have adX:=aR k7 1;have adY:=aR k7 2;have atf:=aR k7 3;rw[cg,eS] at atd ate;rw[cg,ni,eS] at adW adX adY atf;have g_:=@hJ aa;clear iR cg d6 je jy qw;refine sL func72 rfl trivial ?_ rfl;simp only[ntmps72,g0,fV,gp,gA,g1,gI,gJ,gK,gL,f1,fW];gi_wp2_with fail;rw[<-h4.o,<-eS,<-ni,<-kX,<-Ca,<-CE,<-mM.o.1];clear eS ni kX Ca CE;refine⟨trivial,?_⟩;refine yH (im.2 adV.o) ?_;gi_wp2_with fail;refine J2 h1 (gf:=202) (lb:=#[J cc 0]) rfl (fg aB_ bq rfl) iQ (λa b=>a.trans b) (λW l o dt aw aQ ah=>vx (bx _ _) aw) (λ_=>rfl)
  (λce Q l o dt az aw aQ ah=>az)
  (λpre W=>ae fQ W)
  (λs Q C h hb=>h.trans (hb.mono h.size))
  (λs Q l o dt h aw aQ ah=>vx h aw)
  (bx _ _) ?a1 ?assign ?body ?done
 case assign=>
  intro l x W aT dQ;dsimp only[CI];gi_wp2;exact dQ
 case body=>
  rintro i3 pre x W hb a0;obtain⟨k6,k7,k8,k9,nZ,k1,aP,CJ,hl⟩:=dM.o W hb;obtain⟨x,ak⟩:=x;obtain rfl|rfl|rfl|rfl|rfl:x=0\/x=1\/x=2\/x=3\/x=4:=G
  ·have cS:=I (arn k1 nZ);dsimp only[x8,x9];gi_wp2_with fail;refine⟨trivial,λ_=>G,?_⟩;refine xj (FQ i3 (im.2 cS.o)) λfK a5=>?_;gi_wp2_with fail;exact⟨KeepsFrom.s' (S:=λ_=>False) (Kept.bg a5) (λk K=>K.elim),a5.mono hb.size,hb.trans (a5.mono hb.size)⟩
  ·have cS:=I (aro k1 nZ atc.o);dsimp only[x8,x9];gi_wp2_with fail;refine⟨trivial,λ_=>G,?_⟩;refine xj (FQ i3 (im.2 cS.o)) λfK a5=>?_;gi_wp2_with fail;exact⟨KeepsFrom.s' (S:=λ_=>False) (Kept.bg a5) (λk K=>K.elim),a5.mono hb.size,hb.trans (a5.mono hb.size)⟩
  ·have cS:=I (arp k1 nZ x_.o.nodes aP.kS aB);dsimp only[x8,x9];gi_wp2_with fail;refine⟨trivial,λ_=>G,?_⟩;refine xj (FQ i3 (im.2 cS.o)) λfK a5=>?_;gi_wp2_with fail;exact⟨KeepsFrom.s' (S:=λ_=>False) (Kept.bg a5) (λk K=>K.elim),a5.mono hb.size,hb.trans (a5.mono hb.size)⟩
  ·have cS:=I (arq k1 nZ x_.o.nodes aP.kS ht);dsimp only[x8,x9];gi_wp2_with fail;refine⟨trivial,λ_=>G,?_⟩;refine xj (FQ i3 (im.2 cS.o)) λfK a5=>?_;gi_wp2_with fail;exact⟨KeepsFrom.s' (S:=λ_=>False) (Kept.bg a5) (λk K=>K.elim),a5.mono hb.size,hb.trans (a5.mono hb.size)⟩
  ·have cS:=I (arm nZ aP CJ);dsimp only[x8,x9];gi_wp2_with fail;refine⟨trivial,λ_=>G,?_⟩;refine xj (FQ i3 (im.2 cS.o)) λfK a5=>?_;gi_wp2_with fail;exact⟨KeepsFrom.s' (S:=λ_=>False) (Kept.bg a5) (λk K=>K.elim),a5.mono hb.size,hb.trans (a5.mono hb.size)⟩
 case done=>
  rintro aF ce W fh ro hb ly;have EJ:=I (λu (Z:ae W u)=>dM.o u (hb.trans (Z.mono hb.size)));have jd:=jU ly fh hb (gU.1 ly).1;obtain⟨k6,k7,k8,k9,nZ,k1,aP,CJ,hl⟩:=dM.o W hb;have GZ:∃fw,((dF,Value.func (.func fw) #[J bn 0] #[])∈([(4,.func (.func 121) #[J bn 0] #[]),(5,.func (.func 122) #[J bn 0] #[])]:List (Int×ac))/\(-9223372036854775808<=dF/\dF<=9223372036854775807)/\∀u,ae W u->aE aa fw #[J bn 0] u λe D=>∃dG zh fF cV cF g9,e=au (b8 #[E dG zh fF,E cV (pA g9) cF])/\qC g N t g9/\cR D (E cV (pA g9) cF) g9/\ae u D)/\∀args w,(gM fw args).run aa w= .ok (.enter fw args) w:=by
   rcases CJ with rfl|⟨rfl,bE,b0,e,h2,ap,bl⟩
   ·refine⟨121,⟨a3,G,λu Z=>(arr _ u).mono ?_⟩,fg func121 bq rfl⟩;rintro e D ⟨rfl,rfl⟩;exact⟨T,0,0,T,0,[],rfl,.inl rfl,⟨T,0,rfl,bY _,cQ _,λi h=>absurd h (Dh _)⟩,bx _ _⟩
   ·have e:=aKj e;subst e;exact⟨122,⟨a3,G,λu Z=>as5 (EJ.o u Z).2.2.2.2.1 (h2.a_ (bu.bg Z)) ⟨ap,bl⟩ aB ht⟩,fg func122 bq rfl⟩
  obtain⟨fw,GZ,jm⟩:=GZ;have bC:aM (∀u,ae W u->u.cell? (B b_ 0)=A (r c dF)):=λu Z=>(EJ.o u Z).2.1.cell 0;have adX:=aR k7 1;have adY:=aR k7 2;have lo:=@Bc aa;have yN:pR (W.alloc (.map #[] 0)) W.heap.size []:=pR.empty (vY _ _);obtain⟨v1,r1,e4,q1⟩:=yN.insert aiO (k:=4) G (.func (.func 121) #[J bn 0] #[]) [(4,.func (.func 121) #[J bn 0] #[])] a3 a3 a3 a3;obtain⟨v2,r2,g7,q2⟩:=e4.insert aiO (k:=5) G (.func (.func 122) #[J bn 0] #[]) [(4,.func (.func 121) #[J bn 0] #[]),(5,.func (.func 122) #[J bn 0] #[])] a3 a3 a3 a3;have iD:=g7.look aiO GZ.1 GZ.2.1;have eB:ae W v2:=((fb).trans (q1.below a3 (λk K=>by rw[K];exact bY _))).trans (q2.below (by have:=q1.size;simp at this;omega) (λk K=>by rw[K];exact bY _));have adW:=bC.o v2 eB;gi_wp2_with fail;refine pD (GZ.2.2 v2 eB) ?_;rintro e bD ⟨dG,zh,fF,cV,cF,g9,rfl,atg,md,hb⟩;have aL:=I (eB.trans (hb.mono eB.size));have E0:=aL;have ath:aM (∀u,ae bD u->u.cell? (B b_ 1)=A (r c s)/\u.cell? (B b_ 2)=A (r c t)/\u.cell? (B d3 0)=A (J dk 0)/\u.cell? (B d3 1)=A (J du 0)):=λu Z=>by
   obtain⟨k6,k7,_⟩:=EJ.o u (E0.o.trans (Z.mono E0.o.size));exact⟨k7.cell 1,k7.cell 2,k6.cell 0,k6.cell 1⟩
  have UY:=I (λu (Z:ae bD u)=>(EJ.o u (E0.o.trans (Z.mono E0.o.size))).2.2.2.2.2.2.1);obtain⟨q6,UZ⟩:=al (rT of t);obtain⟨M,dU⟩:=al g.arcs.length;have Au:p3 of t=q6:=by rw[UZ];exact(OG (g3 m1.o.1 ht)).symm
  have KD:0<=q6/\q6<many:=by rw[<-Au];exact m1.o.2.1 _ G (bI ht)
  have ati:aM (∀u,ae bD u->aE aa 124 #[J dk 0,r c t] u λe D=>e=au (r c q6)/\D=u):=λu Z=>by rw[UZ];exact ac' dk of many t u (UY.o u Z).cells
  have U0:aM (∀u,ae bD u->aE aa 123 #[J du 0,r c q6] u λe D=>∃aW aG,e=au (E (A (B aW 0)) M M)/\(V D aW (iL aG) 4 (0,0)/\aG.length=M/\rg g of q6 aG)/\ae u D):=λu Z=>by
   rw[dU];refine(as0 (UY.o u Z).flags (bI x_.o.po) KD).mono ?_;rintro e D ⟨aW,aG,rfl,h1,h2,ap,bl⟩;exact⟨aW,aG,rfl,⟨h1,h2,(m1.o.2.2 q6 KD.1 KD.2).up (by rw[h2,Hu]) (λi ag=>by
    have a0:i<g.arcs.length:=by have:=(r4.1 ag).1;rwa[Hu] at this
    rw[Ur a0] at ag;exact ap i a0 (eT ag))⟩,bl⟩
  have Ku:aM (∀u aW aG,ae bD u->(V u aW (iL aG) 4 (0,0)/\aG.length=M/\rg g of q6 aG)->aE aa 74 #[J af 0,aZ #[r c s,r c t,E (A (B aW 0)) M M,E cV g9.length cF]] u λe D=>HA u cl e D):=λu aW aG Z xW=>by
   obtain⟨f6,eF,f3⟩:=xW;have aC:=x_.o.nodes;have p5:0<=((t:Nat):Int)/\((t:Nat):Int)<g.nodes:=bI ht;have uS:0<=((s:Nat):Int)/\((s:Nat):Int)<g.nodes:=bI aB;have n2:=atg;rw[x1.o,<-n2.same x_.o.ok aC p5 (f3.same x_.o.ok Au),<-eF];exact UF (aG:=aG) (eG:=A (B aW 0)) (ix:=aG.length) ⟨x_.o,(UY.o u Z).kS,ata rfl (bI x_.o.po) f6,md.a_ (bu.bg Z),.inr (eF.trans dU),n2.len,n2.pos x_.o.ok p5,rfl,bI aB,bI ht,n2.arcs x_.o.ok aC p5 aG,n2.cl x_.o.ok aC uS p5 aG⟩
  clear UZ dU;have bC:=ath;gi_wp2_with fail;refine Mu 20 bC.o λdV dz ax=>?_;repeat first|refine fS ?_|refine ea ?_
  refine RI [11,12,14,15,16,17,19] 18 (λoA gy tu hh u=>match oA with
   |11=>gy=r c q6
   |12=>∃(aW:Nat) (aG:List Bool),gy=E (A ⟨aW,0,T⟩) M M/\(V u aW (iL aG) 4 (0,0)/\aG.length=M/\rg g of q6 aG)
   |14=>∃(aW:Nat) (aG:List Bool),gy=aZ #[r c s,r c t,E (A ⟨aW,0,T⟩) M M,E cV g9.length cF]/\(V u aW (iL aG) 4 (0,0)/\aG.length=M/\rg g of q6 aG)
   |15=>∃(c3:Option cp) (c4:Nat) (c5:Nat) (a8:Option cp) (bt:Nat) (bp:Nat),gy=b8 #[aZ #[r c cl,E c3 c4 c5,E a8 bt bp],r c 0]
   |16=>∃(c3:Option cp) (c4:Nat) (c5:Nat) (a8:Option cp) (bt:Nat) (bp:Nat),gy=b8 #[aZ #[r c cl,E c3 c4 c5,E a8 bt bp],r c 0]
   |17=>∃(c3:Option cp) (c4:Nat) (c5:Nat) (a8:Option cp) (bt:Nat) (bp:Nat),gy=aZ #[r c cl,E c3 c4 c5,E a8 bt bp]
   |19=>∃(em:Nat),gy=a6 (A ⟨em,0,T⟩)/\(V u em #[r c 0,E T 0 0,E T 0 0] 202 (0,0)/\bD.heap.size<=em)
   |18=>gy=r c 0
   |_=>True) (eF:=2) ?_ (λD bU=>bC.o _ (dz.next' bU)) ?_ (λdZ jZ ia hH u hF=>?_) (λdZ jZ ia u hb dK mR=>?_)
  ·intro oA gy tu hh iV j' ah hb _;try dsimp only at ah⊢
   split at ah
   ·exact ah
   ·obtain⟨aW,aG,e,zi⟩:=ah;exact⟨aW,aG,e,⟨zi.1.aq hb,zi.2⟩⟩
   ·obtain⟨aW,aG,e,zi⟩:=ah;exact⟨aW,aG,e,⟨zi.1.aq hb,zi.2⟩⟩
   ·obtain⟨c3,c4,c5,a8,bt,bp,e⟩:=ah;exact⟨c3,c4,c5,a8,bt,bp,e⟩
   ·obtain⟨c3,c4,c5,a8,bt,bp,e⟩:=ah;exact⟨c3,c4,c5,a8,bt,bp,e⟩
   ·obtain⟨c3,c4,c5,a8,bt,bp,e⟩:=ah;exact⟨c3,c4,c5,a8,bt,bp,e⟩
   ·obtain⟨em,e,CK⟩:=ah;exact⟨em,e,⟨CK.1.aq hb,CK.2⟩⟩
   ·exact ah
   ·trivial
  ·intro dO ag fj dZ jZ ia hH u hp fP hF;simp only[gg,iS,or_false,fW,f1] at ag;have aL:=I (dz.next' hF.below);rcases ag with rfl|rfl|rfl|rfl|rfl|rfl|rfl|rfl
   ·have t60:hH[60]? =A (J dk 0):=hF.base fP 60;have t62:hH[62]? =A (r c t):=hF.base fP 62;refine e3 124 #[J dk 0,r c t] (toBelow (ati.o u aL.o)) ?_;rintro e cz ⟨rfl,hb⟩;refine⟨_,rfl,?_⟩;have hf:True:=trivial;exact⟨_,rfl,hb,rfl⟩
   ·have t58:hH[58]? =A (J du 0):=hF.base fP 58;obtain⟨t63,atj,_⟩:=hF.jV hp 11 63;rw[show dZ 11=_ from atj] at t63;refine e3 123 #[J du 0,r c q6] (U0.o u aL.o) ?_;rintro e cz ⟨aW,aG,rfl,ak,hb⟩;refine⟨_,rfl,?_⟩;have hf:(V cz aW (iL aG) 4 (0,0)/\aG.length=M/\rg g of q6 aG):=ak;exact⟨_,rfl,hb,aW,aG,rfl,hf⟩
   ·have t54:hH[54]? =A (r c s):=hF.base fP 54;have t56:hH[56]? =A (r c t):=hF.base fP 56;obtain⟨t64,⟨aW,aG,atk,zi⟩,_⟩:=hF.jV hp 12 64;rw[atk] at t64;have t65:hH[65]? =A (E cV g9.length cF):=hF.base fP 65;exact gD (aZ #[r c s,r c t,E (A (B aW 0)) M M,E cV g9.length cF]) u ⟨_,rfl,bx _ _,aW,aG,rfl,zi⟩
   ·have t52:hH[52]? =A (J af 0):=hF.base fP 52;obtain⟨t66,⟨aW,aG,atl,zi⟩,_⟩:=hF.jV hp 14 66;rw[atl] at t66;refine e3 74 #[J af 0,aZ #[r c s,r c t,E (A (B aW 0)) M M,E cV g9.length cF]] (Ku.o u aW aG aL.o zi) ?_;rintro e cz ⟨c3,c4,c5,a8,bt,bp,rfl,hb⟩;refine⟨_,rfl,?_⟩;have hf:True:=trivial;exact⟨_,rfl,hb,c3,c4,c5,a8,bt,bp,rfl⟩
   ·obtain⟨t67,⟨c3,c4,c5,a8,bt,bp,atm⟩,_⟩:=hF.jV hp 15 67;rw[atm] at t67;exact gD (b8 #[aZ #[r c cl,E c3 c4 c5,E a8 bt bp],r c 0]) u ⟨_,rfl,bx _ _,c3,c4,c5,a8,bt,bp,rfl⟩
   ·obtain⟨t51,⟨c3,c4,c5,a8,bt,bp,KE⟩,_⟩:=hF.jV hp 16 51;rw[KE] at t51;exact gD (aZ #[r c cl,E c3 c4 c5,E a8 bt bp]) u ⟨_,rfl,bx _ _,c3,c4,c5,a8,bt,bp,rfl⟩
   ·have hb:ae u (u.alloc (an #[r c 0,E T 0 0,E T 0 0] 202)):=fb;have hf:V (u.alloc (an #[r c 0,E T 0 0,E T 0 0] 202)) u.heap.size #[r c 0,E T 0 0,E T 0 0] 202 (0,0)/\bD.heap.size<=u.heap.size:=⟨V.new _ _ _ _,aL.o.size⟩;refine gD (J u.heap.size 0) (u.alloc (an #[r c 0,E T 0 0,E T 0 0] 202)) ?_;exact⟨_,rfl,hb,_,rfl,hf⟩
   ·obtain⟨t51,⟨c3,c4,c5,a8,bt,bp,KE⟩,_⟩:=hF.jV hp 16 51;rw[KE] at t51;exact gD (r c 0) u ⟨_,rfl,bx _ _,rfl⟩
  ·obtain⟨t51,⟨c3,c4,c5,a8,bt,bp,KE⟩,_⟩:=hF.own 16 a3;rw[KE] at t51;have t51:hH[51]? =_:=t51;exact⟨_,λw=>⟨by rfl,by go_simp;try rfl⟩,rfl⟩
  have vH:dZ 11=_:=(dK 11 a3).1;obtain⟨⟨aW,aG,AQ,zi⟩,_⟩:=dK 12 a3;obtain⟨⟨aEC,aED,wT,aEE⟩,_⟩:=dK 14 a3;obtain⟨⟨aEF,aEG,aEH,aEI,aEJ,aEK,vJ⟩,_⟩:=dK 15 a3;obtain⟨⟨aEL,aEM,aEN,aEO,aEP,aEQ,KF⟩,_⟩:=dK 16 a3;obtain⟨⟨c3,c4,c5,a8,bt,bp,U1⟩,_⟩:=dK 17 a3;obtain⟨⟨em,KG,CK⟩,_⟩:=dK 19 a3;have U2:dZ 18=_:=(dK 18 a3).1;rw[vH,AQ,wT,vJ,KF,U1,KG,U2];have aL:=I (dz.next' hb);have k10:=CK.1;have fU:=aR k10 0;have fO:=aR k10 1;have fD:=aR k10 2;have gx:=jw k10;have j5:=gx 0;have f6:=gx 1;have eF:=gx 2;obtain⟨eo,iz⟩:=al (((u.setCell (B em 0) (r c cl)).setCell (B em 1) (E c3 c4 c5)).setCell (B em 2) (E a8 bt bp));have k:=((k10.set 0 (r c cl)).set 1 (E c3 c4 c5)).set 2 (E a8 bt bp);have lL:ae bD eo:=by
   rw[iz];exact((aL.o.setCell (p:=B em 0) CK.2 _).setCell (p:=B em 1) CK.2 _).setCell (p:=B em 2) CK.2 _
  refine dJ 20 ?_;refine lG eo ?_ (he:=by rw[iz];go_simp);rw[<-iz] at k;have B4:ae W eo:=E0.o.trans (lL.mono E0.o.size);have cH:=ig k B4 (show W.heap.size<=em from cM E0.o.size CK.2);clear iz;refine⟨gj,?_⟩;refine kr 21 (r c 0) eo ?_;refine fc (tQ.normal ?_);have e0:=cH.o.1.cell 0;simp at e0;obtain⟨_,_,k8,k9,_,_,_,_,hl⟩:=EJ.o eo cH.o.2.1;have gc:=aR k8 0;have f8:=aR k8 1;have h7:=aR k8 2;have oq:=aR k8 3;have h':=jw k8;have zb:=h' 0;have g':=h' 1;have iE:=h' 2;have jx:=h' 3;have adZ:aM (∀u,ae eo u->u.cell? (B em 0)=A (r c cl)/\u.cell? (B em 1)=A (E c3 c4 c5)/\u.cell? (B em 2)=A (E a8 bt bp)):=λu Z=>⟨(cH.o.1.aq Z).cell 0,(cH.o.1.aq Z).cell 1,(cH.o.1.aq Z).cell 2⟩;have aER:fQ.heap.size<=W.heap.size:=jd.o.2.2.1.size;have tz:=I (show em≠dc/\hN≠dc/\em≠hN by have:=UX.o;have:=cH.o.2.2;omega);have O2:=I (show aF≠dc/\aF≠hN by have:=UX.o;have:=jd.o.2.1;omega);have ad0:=I (show w.heap.size<=aF by have:=go.o;have:=UX.o;have:=jd.o.2.1;omega);have GK:=jd;have Ju:=I (show eo.heap[aF]? =A (.deferred (A [])) from(cH.o.2.1.block aF GK.o.2.2.2).trans GK.o.1);have jd:=Ju;by_cases se:72057594037927936<=cl
  ·gi_wp2_with fail;refine Dt [{target:= .collected aF,args:=#[]}] (λ_ _=>False) (λ_ _ _ _ h=>h.elim) (FG.2 ?_);refine jj (S:=λD=>D.cell? (B em 0)=A (r c cl)/\D.cell? (B em 1)=A (E c3 c4 c5)/\D.cell? (B em 2)=A (E a8 bt bp)) rfl ?_;have ax:=adZ.o eo.drew (bx _ _).drew;change gV _ _ _ _ _ 5 _ _ eo.drew;refine eZ 0 (aZ #[r c 20,r c 0,E T 0 0,E T 0 0]) ax ?_;refine eZ 1 (J em 2) ax ?_;refine eZ 2 (E a8 bt bp) ax ?_;obtain⟨fd,j0⟩:=al ((((eo.drew.setCell (B dc 0) (r c 20)).setCell (B dc 1) (r c 0)).setCell (B dc 2) (E T 0 0)).setCell (B dc 3) (E T 0 0));have U3:V eo.drew dc #[r c 0,r c 0,E T 0 0,E T 0 0] 45:=k8;have k:=(((U3.set 0 (r c 20)).set 1 (r c 0)).set 2 (E T 0 0)).set 3 (E T 0 0);rw[<-j0] at k;have oo:ae w fd:=by rw[j0];exact((((hl.drew.setCell (p:=B dc 0) go.o.1 _).setCell (p:=B dc 1) go.o.1 _).setCell (p:=B dc 2) go.o.1 _).setCell (p:=B dc 3) go.o.1 _)
   have lA:∀b,b≠dc->fd.heap[b]? =eo.heap[b]? :=λb hb=>by rw[j0];exact(HB eo dc b (h8 hb) _ _ _ _)
   refine fs 3 ?_;refine AP (D:=fd) rfl rfl (by rfl) (by rw[j0];go_simp) ?_;have gS:V fd em _ _ _:=(lA em tz.o.1).trans cH.o.1;have yV:V fd hN _ _ _:=(lA hN tz.o.2.1).trans k9;have jI:fd.cell? (B em 0)=A (r c cl)/\fd.cell? (B em 1)=A (E c3 c4 c5)/\fd.cell? (B em 2)=A (E a8 bt bp):=⟨gS.cell 0,gS.cell 1,gS.cell 2⟩;refine⟨jI,?_⟩;clear j0;have atn:=aR yV 0;have Cf:=yV.free 0 (hD (cQ _));have KH:=yV.set 0 (E a8 bt bp);have KI:=k.gr (B hN 0) (E a8 bt bp) (h8 tz.o.2.1);have AT:=gS.gr (B hN 0) (E a8 bt bp) tz.o.2.2;obtain⟨nw,qw⟩:=al (fd.setCell (B hN 0) (E a8 bt bp));have pU:ae w nw:=by rw[qw];exact oo.setCell (p:=B hN 0) go.o.2 _
   rw[<-qw] at KH KI AT;have U4:nw.heap[aF]? =A (.deferred (A [])):=by
    rw[qw,d7 _ _ _ _ O2.o.2,lA aF O2.o.1];exact jd.o
   refine fs 4 ?_;refine AP (D:=nw) rfl rfl (by rfl) (by rw[qw];go_simp) ?_;have oL:nw.cell? (B em 0)=A (r c cl)/\nw.cell? (B em 1)=A (E c3 c4 c5)/\nw.cell? (B em 2)=A (E a8 bt bp):=⟨AT.cell 0,AT.cell 1,AT.cell 2⟩;refine⟨oL,?_⟩;clear qw;refine i4 (tQ.normal ?_);gi_wp2_with fail;refine vc (ai:=w.heap.size) a3 _ _ ⟨⟨aF,rfl,ad0.o,U4,λdS h=>by cases h⟩,trivial⟩ λD eQ fi=>?_;have x':=eQ.aH KI;have U5:=eQ.aH KH;have r0:=x'.cell 0;have r1:=x'.cell 1;have r2:=x'.cell 2;have eC:=x'.cell 3;have zj:=U5.cell 0;refine⟨b8 #[aZ #[r c 20,r c 0,E T 0 0,E T 0 0],E a8 bt bp],by simp at r0 r1 r2 eC zj;simp[gq,aB',go_sem,r0,r1,r2,eC,zj],?_⟩;refine⟨T,0,0,T,0,0,a8,bt,bp,?_,pU.trans fi⟩;unfold i0 i1;rw[if_pos se,if_pos se]
  ·have Kx:cl<72057594037927936:=G;gi_wp2_with fail;refine Dt [{target:= .collected aF,args:=#[]}] (λ_ _=>False) (λ_ _ _ _ h=>h.elim) (FG.2 ?_);refine jj (S:=λD=>D.cell? (B em 0)=A (r c cl)/\D.cell? (B em 1)=A (E c3 c4 c5)/\D.cell? (B em 2)=A (E a8 bt bp)) rfl ?_;have ax:=adZ.o eo.drew (bx _ _).drew;change gV _ _ _ _ _ 10 _ _ eo.drew;refine eZ 0 (J em 0) ax ?_;refine eZ 1 (r c cl) ax ?_;refine eZ 2 (J em 1) ax ?_;refine eZ 3 (E c3 c4 c5) ax ?_;refine eZ 4 (E dG zh fF) ax ?_;refine eZ 5 (aZ #[r c 0,r c cl,E c3 c4 c5,E dG zh fF]) ax ?_;refine eZ 6 (J em 2) ax ?_;refine eZ 7 (E a8 bt bp) ax ?_;obtain⟨fd,j0⟩:=al ((((eo.drew.setCell (B dc 0) (r c 0)).setCell (B dc 1) (r c cl)).setCell (B dc 2) (E c3 c4 c5)).setCell (B dc 3) (E dG zh fF));have U3:V eo.drew dc #[r c 0,r c 0,E T 0 0,E T 0 0] 45:=k8;have k:=(((U3.set 0 (r c 0)).set 1 (r c cl)).set 2 (E c3 c4 c5)).set 3 (E dG zh fF);rw[<-j0] at k;have oo:ae w fd:=by rw[j0];exact((((hl.drew.setCell (p:=B dc 0) go.o.1 _).setCell (p:=B dc 1) go.o.1 _).setCell (p:=B dc 2) go.o.1 _).setCell (p:=B dc 3) go.o.1 _)
   have lA:∀b,b≠dc->fd.heap[b]? =eo.heap[b]? :=λb hb=>by rw[j0];exact(HB eo dc b (h8 hb) _ _ _ _)
   refine fs 8 ?_;refine AP (D:=fd) rfl rfl (by rfl) (by rw[j0];go_simp) ?_;have gS:V fd em _ _ _:=(lA em tz.o.1).trans cH.o.1;have yV:V fd hN _ _ _:=(lA hN tz.o.2.1).trans k9;have jI:fd.cell? (B em 0)=A (r c cl)/\fd.cell? (B em 1)=A (E c3 c4 c5)/\fd.cell? (B em 2)=A (E a8 bt bp):=⟨gS.cell 0,gS.cell 1,gS.cell 2⟩;refine⟨jI,?_⟩;clear j0;have atn:=aR yV 0;have Cf:=yV.free 0 (hD (cQ _));have KH:=yV.set 0 (E a8 bt bp);have KI:=k.gr (B hN 0) (E a8 bt bp) (h8 tz.o.2.1);have AT:=gS.gr (B hN 0) (E a8 bt bp) tz.o.2.2;obtain⟨nw,qw⟩:=al (fd.setCell (B hN 0) (E a8 bt bp));have pU:ae w nw:=by rw[qw];exact oo.setCell (p:=B hN 0) go.o.2 _
   rw[<-qw] at KH KI AT;have U4:nw.heap[aF]? =A (.deferred (A [])):=by
    rw[qw,d7 _ _ _ _ O2.o.2,lA aF O2.o.1];exact jd.o
   refine fs 9 ?_;refine AP (D:=nw) rfl rfl (by rfl) (by rw[qw];go_simp) ?_;have oL:nw.cell? (B em 0)=A (r c cl)/\nw.cell? (B em 1)=A (E c3 c4 c5)/\nw.cell? (B em 2)=A (E a8 bt bp):=⟨AT.cell 0,AT.cell 1,AT.cell 2⟩;refine⟨oL,?_⟩;clear qw;refine i4 (tQ.normal ?_);gi_wp2_with fail;refine vc (ai:=w.heap.size) a3 _ _ ⟨⟨aF,rfl,ad0.o,U4,λdS h=>by cases h⟩,trivial⟩ λD eQ fi=>?_;have x':=eQ.aH KI;have U5:=eQ.aH KH;have r0:=x'.cell 0;have r1:=x'.cell 1;have r2:=x'.cell 2;have eC:=x'.cell 3;have zj:=U5.cell 0;refine⟨b8 #[aZ #[r c 0,r c cl,E c3 c4 c5,E dG zh fF],E a8 bt bp],by simp at r0 r1 r2 eC zj;simp[gq,aB',go_sem,r0,r1,r2,eC,zj],?_⟩;refine⟨c3,c4,c5,dG,zh,fF,a8,bt,bp,?_,pU.trans fi⟩;unfold i0 i1;rw[if_neg G,if_neg G]
theorem ad1 {gv:Option cp} (aP:y_ w dk du af g N of many bs l) (CJ:AL w g N (a6 gv) dF) {s t:Nat} (aB:s<N) (ht:t<N) (hst:s≠t) (cr:Int):
 aE aa 72 #[J af 0,a6 gv,aZ #[J dk 0,J du 0],aZ #[r c dF,r c s,r c t,r c cr]] w λe D=>p4 w (c1 g.arcs s t) e D:=
 im.1 (atb 5 G aP CJ aB ht hst cr)
abbrev zk (x:Int):Prop:=(Lit.int c x).wf=ad
structure ut (w:O) (P af aY N:Nat):Prop where
 par:∃x:Int,zk x/\V w P #[J af 0,E (A (B aY 0)) N N,.int c x] 180
 row:∃C:List Int,C.length=N/\(∀y∈C,zk y)/\V w aY (c6 c C) 3
theorem ut.later (h:ut w P af aY N) (hb:ae w D):ut D P af aY N:=by
 obtain⟨x,h0,h1⟩:=h.par;obtain⟨C,h2,bl,ap⟩:=h.row;exact⟨⟨x,h0,h1.aq hb⟩,C,h2,bl,ap.aq hb⟩
structure HD (w W:O) (P af aY N bk:Nat) (x:Int):Prop where
 par:V W P #[J af 0,E (A (B aY 0)) N N,.int c x] 180
 row:∃C:List Int,C.length=N/\(∀y∈C,zk y)/\V W aY (c6 c C) 3
 ib:V W bk #[J P 0] 178
 kept:Kept (λk=>k=aY) w W
theorem HD.put {x:Int} (h:HD w W P af aY N bk x) (s6:zk x) (v:Nat):HD w (W.drew.setCell (B aY v) (.int c x)) P af aY N bk x:=by
 obtain⟨C,h1,bl,h2⟩:=h.row;have a9:ae W W.drew:=(bx _ _).drew;have K:Kept (λk=>k=aY) w W.drew:=⟨a9.os.trans h.kept.os,a9.tape.trans h.kept.tape,a9.output.trans h.kept.output,cM h.kept.size a9.size,λk K b9=>(a9.block k (jP K h.kept.size)).trans (h.kept.block k K b9)⟩;have q1:V W.drew P _ _ _:=h.par;have q2:V W.drew aY _ _ _:=h2;have bm:V W.drew bk _ _ _:=h.ib;have b2:P≠aY:=λe=>by subst e;exact absurd (er h.par h2) bj
 have cm:bk≠aY:=λe=>by subst e;exact absurd (er h.ib h2) bj
 refine⟨q1.gr _ _ b2,⟨C.set v x,by rw[gN];exact h1,λy az=>by
  rcases QA az with h|rfl
  ·exact bl _ h
  ·exact s6,?_⟩,bm.gr _ _ cm,Kept.setCell (S:=λk=>k=aY) (p:=B aY v) K rfl _⟩
 have:=q2.set v (.int c x)
 rwa[tO] at this
theorem ato {u:O} {v0 v1:ac} {x:Int} (aP:V u P #[v0,v1,.int c x] 180) (ap:V u bk #[J P 0] 178):
 CallsD aa 189 #[J bk 0] .returning u λe ed D=>e=au (b8 #[])/\ed= .returning/\(∃y:Int,zk y/\V D P #[v0,v1,.int c y] 180)/\Kept (λk=>k=P) u D:=by
 have ch:u.cell? (B bk 0)=A (J P 0):=ap.cell 0;have dk:u.cell? (B P 2)=A (.int c x):=aP.cell 2;have du:u.frozen? (B P 2)=ao:=aP.free 2 (hD (cQ _));have e_:=I aP;clear aP ap;refine L2 func189 rfl λyD cs Z=>?_;simp only[ntmps189,g0,fV,gp,gA,g1,gI,gJ,gK,gL,f1,fW];refine L3 ?_;go_wp2_with fail;exact⟨rfl,.returning,by cases yD;simp_all,b8 #[],mQ rfl _ _ _,rfl,rfl,⟨_,(by first|exact RowKit.wrap64_wf _|exact wf_wrap _ _|exact Go.RowKit.wrap64_wf _),e_.o.set 2 _⟩,Kept.setCell (S:=λk=>k=P) (p:=B P 2) (Kept.refl _ _) rfl _⟩
theorem atp (h:ut w P af aY N) {a:Option cp} {R:Nat} (aw:L.length<=12) (dj:∀x∈L,0<=x/\x<N) (dQ:∀u,Kept (λk=>k=P\/k=aY) w u->cR u (E a L.length R) L):
 aE aa 106 #[J P 0,E a L.length R,.int c 1] w λe D=>e=au (b8 #[])/\ut D P af aY N/\Kept (λk=>k=P\/k=aY) w D:=by
 have g_:=@hJ aa;obtain⟨x,U6,ak⟩:=h.par;obtain⟨bk,el⟩:=al w.heap.size;obtain⟨ay,bA⟩:=al (w.alloc (an #[J P 0] 178));have aX:=dx bA;have hst:HD ay ay P af aY N bk x:=⟨ak.aq aX,(h.later aX).row,by rw[bA,el];exact V.new _ _ _ _,Kept.refl _ _⟩;have AG:∀u,Kept (λk=>k=aY) ay u->Kept (λk=>k=P\/k=aY) w u:=λu Z=>⟨Z.os.trans aX.os,Z.tape.trans aX.tape,Z.output.trans aX.output,cM aX.size Z.size,λk K b9=>(Z.block k (jP K aX.size) (λe=>b9 (.inr e))).trans (aX.block k K)⟩;have lp:=I hst;have CL:=db AG dQ;have e_:=I dj;have cX:=I bA;clear bA aX hst AG dQ dj h ak
 go_enter_defers func106,ntmps106
 go_wp2_with fail;rw[<-cX.o,<-el];clear el;go_loopw [17] (λi wr=>∃(k:Nat),k<=L.length/\i= .int c k/\aM (HD ay wr P af aY N bk x)) (λi _=>L.length-(cu i).toNat)
 ·exact⟨0,cQ _,rfl,lp⟩
 ·clear lp;obtain⟨k,K,rfl,lp⟩:=hrel;by_cases a0:k<L.length
  ·have ie:(k:Int)<L.length:=G;have k0:=ew k;obtain⟨kC,cx,rfl,d⟩:=(CL.o.2 wr (CL.o.1 wr lp.o.kept)).at k a0;have q9:=e_.o _ (gB a0);obtain⟨v,aK⟩:∃v:Nat,(v:Int)=L[k]:=⟨L[k].toNat,G⟩;rw[<-aK] at d q9;have wH:(v:Int)<N:=q9.2;have v0:(0:Int)<=v:=q9.1;clear aK q9;go_wp2_with fail;have cj:=I (show wr.drew.cell? (B bk 0)=A (J P 0)/\wr.drew.cell? (B P 1)=A (E (A (B aY 0)) N N)/\wr.drew.cell? (B P 2)=A (.int c x) from⟨lp.o.ib.cell 0,lp.o.par.cell 1,lp.o.par.cell 2⟩);obtain⟨C,vM,E1,ri⟩:=lp.o.row;obtain⟨uh,sQ⟩:∃uh,wr.drew.cell? (B aY v)=A (.int c uh):=by
    refine⟨C[v]'G,?_⟩;have br:V wr.drew aY (c6 c C) 3:=ri;have:=br.cell v
    rwa[kd _ _ _ G] at this
   have zC:wr.drew.frozen? (B aY v)=ao:=(show V wr.drew aY (c6 c C) 3 (0,0) from ri).free v (hD (cQ _));clear vM ri E1;refine(FG (n:=9) (P:=aa)).1 (Dt [{target:= .fn (.func 189) #[J bk 0],args:=#[]}] (λ_ _=>False) (λ_ _ _ _ h=>h.elim) (FG.2 ?_));refine jj (S:=λD=>D.cell? (B bk 0)=A (J P 0)/\D.cell? (B P 1)=A (E (A (B aY 0)) N N)/\D.cell? (B P 2)=A (.int c x)) rfl ?_;have ax:=cj.o;change gV _ _ _ _ _ 11 _ _ wr.drew;repeat refine fA ?_
   obtain⟨fd,j0⟩:=al (wr.drew.setCell (B aY v) (.int c x));refine fs 10 ?_;refine AP (D:=fd) rfl rfl (by rfl) (by rw[j0];go_simp) ?_;have atq:=I j0;clear j0;have sT:=I (show HD ay fd P af aY N bk x by rw[atq.o];exact lp.o.put U6 v);have jI:fd.cell? (B bk 0)=A (J P 0)/\fd.cell? (B P 1)=A (E (A (B aY 0)) N N)/\fd.cell? (B P 2)=A (.int c x):=⟨sT.o.ib.cell 0,sT.o.par.cell 1,sT.o.par.cell 2⟩;refine⟨jI,?_⟩;refine i4 (tQ.normal ?_);go_wp2_with fail;go_roundw
   ·exact⟨k+1,G,by go_num,sT⟩
   ·simp[cu];omega
  ·obtain rfl:k=L.length:=G;go_wp2_with fail;refine Ii (f:=189) (args:=#[J bk 0]) a3 (by simp[go_sem]) ?_;refine(ato lp.o.par lp.o.ib).mono ?_;rintro e ed fo ⟨rfl,rfl,⟨y,atr,az⟩,K⟩;have t':=CL.o.1 wr lp.o.kept;obtain⟨C,vM,E1,ri⟩:=lp.o.row;have b9:aY≠P:=λe=>by subst e;exact absurd (er lp.o.par ri) bj
   exact⟨b8 #[],mQ rfl _ _ _,rfl,⟨⟨y,atr,az⟩,C,vM,E1,K.aH ri b9⟩,K.os.trans t'.os,K.tape.trans t'.tape,K.output.trans t'.output,cM t'.size K.size,λk pa e6=>(K.block k (jP pa t'.size) (λe=>e6 (.inl e))).trans (t'.block k pa e6)⟩
end
end Go.Proofs.YtnmliebconiefaaGreatDoor
