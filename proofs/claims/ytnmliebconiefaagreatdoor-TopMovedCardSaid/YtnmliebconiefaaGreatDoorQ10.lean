/- Texts of TopTriangle's and TopMoved's walks, made small by a printer; no conditions. -/
import Derived.Test.YtnmliebconiefaaGreatDoorQ11
import Derived.ChangeSame
import Derived.ChangeVars
import Derived.JoinedOf
import Derived.RowKit
import Derived.LaidLaws
import Derived.LaidHandle
import Derived.Stop.Joined
open And renaming intro→cv
open Bool renaming false→ao,true→ad
open Go renaming Calls→aE,TypeId→cY,Value→ac,World→O,trodAll_cons_mk→aCA
open Go.DataW renaming TrodAll→aCz
open Go.Ending renaming returned→au
open Go.Fence renaming wide→dY
open Go.Instr renaming index→uO
open Go.IntKind renaming i64→c,u8→dA,bits→ais,max→aiq,min→aip,signed→air
open Go.Obj renaming cells→an
open Go.Proofs.Tryz renaming func125→aCw,func67→aCu,func71→aCx,prog→aa,results10→aCv
open Go.Proofs.YtnmliebconiefaaGreatDoor.Rows renaming laid_errors_errorType→aiX
open Go.RowKit renaming Below→bQ,intOf→cu
open Go.Value renaming agg→aZ,bool→aA,int→r,nilFunc→mB,pointer→a6,slice→E,tuple→b8,okWide→aCy
open List renaming range→m8
open Nat renaming reduceAdd→gA,reduceSub→g1
open Option renaming none→T,some→A
namespace Go.Proofs.YtnmliebconiefaaGreatDoor
open Go.RowKit Go.Shelf Go.Proofs.Tryz
set_option linter.all false
set_option maxRecDepth 100000
set_option maxHeartbeats 32000000
def It:=@Go.Proofs.Tryz.underlying25
def Mj:=@Go.Proofs.Tryz.underlying5
variable {b3 bJ:Bool} {N df s t:Nat} {W w:O} {g:Raw}
def C':List bd:=[(0,1,2),(1,2,3),(0,2,6)]
theorem ay':c1 C' 0 2=5:=by
 refine sl ⟨?_,λd h=>?_⟩
 ·have h1:dP C' 0 1 (0+2):=dP.snoc (0,1,2) .nil (by simp[C']) rfl;exact h1.snoc (1,2,3) (by simp[C']) rfl
 ·have h:=h.t7 (R:=1) (p:=λv=>if v=0 then 5 else if v=1 then 3 else 0) (λa ha=>by
   simp only[C',gg,iS,or_false] at ha;rcases ha with rfl|rfl|rfl<;>simp)
  simp at h;omega
theorem below_drewN {ai:Nat} {Q:O} (h:bQ ai w Q) (n:Nat):bQ ai w (Q.drewN n):=⟨h.os,h.tape,h.output,h.size,h.block⟩
section
open Go.ChangeShapes Go.WideShapes Go.ChangeAt Go.RowKit
theorem own:ownKnob prog.godebug=T:=bq
theorem laidOut:laidOutB aa=ad:=bq
theorem okWide_agg {P:Program} {U:Reach} {base:Nat} {t:cY} {v:ac} (ht:(∃qf,P.underlying t=A (.struct qf))\/(∃n e,P.underlying t=A (.array n e))) (h:aCy P w U base t v):∃cs,v=aZ cs/\cs.size=P.cellsOf t:=by
 rcases ht with⟨qf,ht⟩|⟨n,e,ht⟩
 ·exact okWide_struct ht h
 ·simp only[aCy,ht] at h;obtain⟨cs,h1,h2,_⟩:=h;exact⟨cs,h1,h2⟩
theorem azc {H:Type} {enc:cY×ac->H} {W':O} (hb:ae W W'):
 ∀(zB:List cY) (zm:List ac) (ds:List (DataW H)) (c7:List MemPlace),(∀t∈zB,prog.readableRec t=ad/\t<prog.types.size)->
  (∀x∈c7,x.block<W.heap.size)->aCz enc aa W 0 (λ_=>ad) ad zB zm ds c7->aCz enc aa W' 0 (λb=>decide (b<W.heap.size)) ad zB zm ds c7:=by
 intro zB
 induction zB with
 |nil=>intro zm ds c7 _ _ h;cases zm<;>cases ds<;>exact h
 |cons t zB d4=>
  intro zm ds c7 ar a0 h;obtain⟨v,azd,d,abQ,p,q,rfl,rfl,rfl,h1,h2⟩:=trodAll_cons h;exact aCA (Below.trod laidOut (ar t a3).1 (ar t a3).2 h1 hb (λx ak=>a0 x (by simp[ak])))
   (d4 azd abQ q (λu Z=>ar u (by simp[Z])) (λx ak=>a0 x (by simp[ak])) h2)
theorem law_post {H:Type} {enc:cY×ac->H} {f:Func} {s:ChangeSpec} {W':O} {args:Array ac} {ds gs:List (DataW H)} {before:List MemPlace} (CY:cY)
 (aze:prog.underlying CY=A .bool) (azf:f.resultTypes=#[CY]) (nr:(f.params.toList.all λt=>prog.readableRec t&&decide (t<prog.types.size))=ad)
 (aK:s.vars=[]) (hfn:(s.fn H (ds++gs)).results=[.lit (.bool ad)]) (azg:(s.fn H (ds++gs)).args=ds) (Wk:(s.fn H (ds++gs)).vars=[])
 (hW:DataW.Whole enc aa f.params.toList s.vars ao W args.toList ds gs before) (hb:ae W W'):
 s.post enc aa f ao ad ao ao W args (.bool ad) W':=by
 have ar:∀t∈f.params.toList,prog.readableRec t=ad/\t<prog.types.size:=λt ht=>by
  have:=LQ.1 nr t ht;simpa using this
 have a0:=hW.lt;have hW':=hW;obtain⟨p,q,hA,hV,rfl,b5,aC⟩:=hW';rw[aK] at hV;obtain⟨rfl,rfl⟩:=trodVars_none hV;refine⟨ds,[],p++[],[],p,[],hW,?_,?_,?_,hb.frame _,λh=>by cases h⟩
 ·rw[azf,hfn];exact aCA (shut_bool aze _) trodAll_mk0
 ·rw[azg];exact azc hb _ _ _ _ ar (λx ak=>a0 x (by simpa using ak)) hA
 ·rw[Wk,aK];rfl
end
section
open Go.ChangeShapes Go.WideShapes Go.ChangeAt Go.RowKit
theorem azh:prog.globalNamed "errors.errorType" =A 0:=bq
theorem azi:(prog.cutTypes.find? (·.1== "internal/reflectlite.rtype")).map (·.2)=A 339:=bq
theorem azj:((m8 prog.types.size).filter λt=>prog.rowNamed t [101,114,114,111,114])=[35]:=bq
theorem HG.of_laid (h:laidMetH aa [("errors.errorType",aiX)] W):HG W:=by
 have fx:laidMet aa [] W/\handlesMet aa [("errors.errorType",aiX)] W:=h;obtain⟨name,u,kp,br,a4,en,od,sb⟩:=fx.2 _ (f2.2 rfl);have bt:name=[101,114,114,111,114]:=(eT br).symm;subst bt;obtain rfl:=eT (azi.symm.trans a4);have hm:kp∈(m8 prog.types.size).filter λt=>prog.rowNamed t [101,114,114,111,114]:=Dj.2 ⟨tI.2 en,od⟩;rw[azj] at hm;obtain rfl:=f2.1 hm;have hh:typeHandle aa 35=J 1 35:=bq;rw[hh] at sb;simpa [HG] using World.var?_cell azh sb 0
noncomputable def laidWorld (os:Os):O:=
 let bH:=World.holding aa os ⟨#[],#[],[]⟩
 {bH with heap:=bH.heap.modify 0 λ
  |an _ t frozen=>an #[.iface 339 (aZ #[a6 (A ⟨1,35,T⟩)])] t frozen
  |o=>o}
theorem laidWorld_met (os:Os) (args:Array ac):laidMetH aa [("errors.errorType",aiX)] ((laidWorld os).forCall (λ_ _=>0) ⟨#[],args,[]⟩).memory:=
 laidMetH_of_parts (laidMet_nil _ _) bq
end
section
attribute [local go_sem] f'
def hasB (b3 bJ:Bool) (k:Nat):Bool:=(!(k==2||k==3||k==5)||b3)&&(!(k==4||k==5)||bJ)
theorem ayV (df:Nat) (w:O):aE aa 24 #[J df 0] w λe D=>e=au (.func (.func 67) #[] #[J w.heap.size 0])/\D=w.alloc (an #[J df 0] 33):=by
 have g_:=@hJ aa;go_in;go_wp2_with fail;go_ret;exact⟨rfl,rfl⟩
theorem ayW (m:Nat) (hm:1<=m) (gd cc:Nat) (cJ:O) (h:rj cJ df g N b3 bJ) (h1:V cJ cc #[J df 0] 33) (bG iu:List Int->O->Prop)
 (ee:∀x Q ai,bG x Q->ae Q ai->bG x ai)
 (ei:∀(pre:List Int) (x:Int) W,bG pre W->pre.length<6->YieldAt dY (m-1) aa gd (iI x) W λe W'=>(e=au (aA ad)/\bG (pre++[x]) W'/\bQ cJ.heap.size W W')\/(e=au (aA ao)/\iu (pre++[x]) W'))
 (W:O) (hW:ae cJ W) (h0:bG [] W):
 CallsIn dY m aa 67 #[.func (.yield gd) #[] #[],J cc 0] W λe W'=>(∃v,e=au v)/\((∃ce,ce=f0 (hasB b3 bJ) 6/\bG ce W')\/(∃pre,True/\iu pre W')):=by
 have bZ:=I (λu (Z:ae cJ u)=>cv (h.later Z) (show u.cell? (B cc 0)=A (J df 0) from(h1.aq Z).cell 0));have aV:=(bZ.o W hW).2;have ps:=I (afV (bZ.o W hW).1);refine kL aCu rfl trivial ?_ rfl;simp only[ntmps67,g0,fV,gp,gA,g1,gI,gJ,gK,gL,f1,fW];gi_wp2_with fail;refine jb ps.o λd9 aX=>?_;have cX:=I (hW.trans (aX.mono hW.size));have gX:=I (ee _ _ _ h0 aX);gi_wp2_with fail;refine pD (WC d9) ?_;rintro e fK ⟨cO,cq,rfl,_,_,a5⟩;have mc:=I (show ae cJ fK from cX.o.trans (a5.mono cX.o.size));have fC:=I (show bG (f0 (hasB b3 bJ) 0) fK from ee _ _ _ gX.o a5);gi_wp2_with fail;gi_loopw [9] (λi wr=>∃(k:Nat),k<=6/\i=r c k/\aM (ae cJ wr)/\aM (bG (f0 (hasB b3 bJ) k) wr)) (λi _=>6-(cu i).toNat)
 ·exact⟨0,cQ _,rfl,mc,fC⟩
 ·obtain⟨k,K,rfl,hk,ky⟩:=hrel;by_cases a0:k<6
  ·have sB:(f0 (hasB b3 bJ) k).length<6:=bI (D5 (hasB b3 bJ) k);have Gp:k=0\/k=1\/k=2\/k=3\/k=4\/k=5:=G;rcases Gp with rfl|rfl|rfl|rfl|rfl|rfl
   ·have nY:∀w,(uO 95 (aZ (tE cO cq)) (r c 0)).run aa w= .ok (aZ #[aA ao,aA ao,.func (.func 125) #[] #[J cO 0]]) w:=λ_=>by kernel_rfl
    obtain⟨bi,d6⟩:=al (wr.alloc (an #[aA ao,aA ao,.func (.func 125) #[] #[J cO 0]] 94));have c_:=dx d6;have k4:=eK d6 rfl;have d0:=aR k4 0;have d1:=aR k4 1;have d2:=aR k4 2;have mz:ae cJ bi:=hk.o.trans (c_.mono hk.o.size);have aV:=(bZ.o bi mz).2;have iZ:=Fx (bZ.o bi mz).1 ao ao (.func 125) #[] #[J cO 0];rw[show((!ao||b3)&&(!ao||bJ))=hasB b3 bJ 0 from rfl] at iZ;rw[d6] at d0 d1 d2 aV;have mM:=I d6;have tw:=I (ee _ _ _ ky.o c_);have fY:=wu (hasB b3 bJ) 0;obtain⟨q,aO⟩:=al (hasB b3 bJ 0);rw[<-aO] at iZ fY;have WD:q=ad:=aO;subst WD;clear d6 aO;gi_wp2_with fail;rw[<-mM.o];refine jb iZ λbD cT=>?_;have hd:=I (show ae cJ bD from mz.trans (cT.mono mz.size));have rV:=ee _ _ _ tw.o cT;obtain⟨fn,tmps,assign,body,az,cf⟩:=ei _ (0:Int) bD rV sB;dsimp only[iI] at az;gi_wp2_with fail;refine cf.mono ?_;rintro e dI (⟨rfl,ho,dv⟩|⟨rfl,og⟩)
    ·have hQ:=I (show ae cJ dI from hd.o.trans dv);have lf:=I (show bG (f0 (hasB b3 bJ) 1) dI from by rw[fY];exact ho);gi_wp2_with fail;go_roundw
     ·exact⟨1,G,by go_num,hQ,lf⟩
     ·simp[cu]
    ·gi_wp2_with fail;refine gh (mQ rfl _ _ _) rfl ?_;exact⟨⟨_,rfl⟩,.inr ⟨_,trivial,og⟩⟩
   ·have nY:∀w,(uO 95 (aZ (tE cO cq)) (r c 1)).run aa w= .ok (aZ #[aA ao,aA ao,.func (.func 125) #[] #[J cq 0]]) w:=λ_=>by kernel_rfl
    obtain⟨bi,d6⟩:=al (wr.alloc (an #[aA ao,aA ao,.func (.func 125) #[] #[J cq 0]] 94));have c_:=dx d6;have k4:=eK d6 rfl;have d0:=aR k4 0;have d1:=aR k4 1;have d2:=aR k4 2;have mz:ae cJ bi:=hk.o.trans (c_.mono hk.o.size);have aV:=(bZ.o bi mz).2;have iZ:=Fx (bZ.o bi mz).1 ao ao (.func 125) #[] #[J cq 0];rw[show((!ao||b3)&&(!ao||bJ))=hasB b3 bJ 1 from rfl] at iZ;rw[d6] at d0 d1 d2 aV;have mM:=I d6;have tw:=I (ee _ _ _ ky.o c_);have fY:=wu (hasB b3 bJ) 1;obtain⟨q,aO⟩:=al (hasB b3 bJ 1);rw[<-aO] at iZ fY;have WD:q=ad:=aO;subst WD;clear d6 aO;gi_wp2_with fail;rw[<-mM.o];refine jb iZ λbD cT=>?_;have hd:=I (show ae cJ bD from mz.trans (cT.mono mz.size));have rV:=ee _ _ _ tw.o cT;obtain⟨fn,tmps,assign,body,az,cf⟩:=ei _ (1:Int) bD rV sB;dsimp only[iI] at az;gi_wp2_with fail;refine cf.mono ?_;rintro e dI (⟨rfl,ho,dv⟩|⟨rfl,og⟩)
    ·have hQ:=I (show ae cJ dI from hd.o.trans dv);have lf:=I (show bG (f0 (hasB b3 bJ) 2) dI from by rw[fY];exact ho);gi_wp2_with fail;go_roundw
     ·exact⟨2,G,by go_num,hQ,lf⟩
     ·simp[cu]
    ·gi_wp2_with fail;refine gh (mQ rfl _ _ _) rfl ?_;exact⟨⟨_,rfl⟩,.inr ⟨_,trivial,og⟩⟩
   ·have nY:∀w,(uO 95 (aZ (tE cO cq)) (r c 2)).run aa w= .ok (aZ #[aA ad,aA ao,.func (.func 76) #[] #[]]) w:=λ_=>by kernel_rfl
    obtain⟨bi,d6⟩:=al (wr.alloc (an #[aA ad,aA ao,.func (.func 76) #[] #[]] 94));have c_:=dx d6;have k4:=eK d6 rfl;have d0:=aR k4 0;have d1:=aR k4 1;have d2:=aR k4 2;have mz:ae cJ bi:=hk.o.trans (c_.mono hk.o.size);have aV:=(bZ.o bi mz).2;have iZ:=Fx (bZ.o bi mz).1 ad ao (.func 76) #[] #[];rw[show((!ad||b3)&&(!ao||bJ))=hasB b3 bJ 2 from rfl] at iZ;rw[d6] at d0 d1 d2 aV;have mM:=I d6;have tw:=I (ee _ _ _ ky.o c_);have fY:=wu (hasB b3 bJ) 2;obtain⟨q,aO⟩:=al (hasB b3 bJ 2);rw[<-aO] at iZ fY;clear d6 aO;gi_wp2_with fail;rw[<-mM.o];refine jb iZ λbD cT=>?_;have hd:=I (show ae cJ bD from mz.trans (cT.mono mz.size));have rV:=ee _ _ _ tw.o cT;cases q with
    |false=>
     have yb:=I (show bG (f0 (hasB b3 bJ) 3) bD from by rw[fY];simpa using rV);gi_wp2_with fail;refine⟨λ_ h=>(by cases h),?_⟩;gi_wp2_with fail;go_roundw
     ·exact⟨3,G,by go_num,hd,yb⟩
     ·simp[cu]
    |true=>
     obtain⟨fn,tmps,assign,body,az,cf⟩:=ei _ (2:Int) bD rV sB;dsimp only[iI] at az;gi_wp2_with fail;refine cf.mono ?_;rintro e dI (⟨rfl,ho,dv⟩|⟨rfl,og⟩)
     ·have hQ:=I (show ae cJ dI from hd.o.trans dv);have lf:=I (show bG (f0 (hasB b3 bJ) 3) dI from by rw[fY];exact ho);gi_wp2_with fail;go_roundw
      ·exact⟨3,G,by go_num,hQ,lf⟩
      ·simp[cu]
     ·gi_wp2_with fail;refine gh (mQ rfl _ _ _) rfl ?_;exact⟨⟨_,rfl⟩,.inr ⟨_,trivial,og⟩⟩
   ·have nY:∀w,(uO 95 (aZ (tE cO cq)) (r c 3)).run aa w= .ok (aZ #[aA ad,aA ao,.func (.func 78) #[] #[]]) w:=λ_=>by kernel_rfl
    obtain⟨bi,d6⟩:=al (wr.alloc (an #[aA ad,aA ao,.func (.func 78) #[] #[]] 94));have c_:=dx d6;have k4:=eK d6 rfl;have d0:=aR k4 0;have d1:=aR k4 1;have d2:=aR k4 2;have mz:ae cJ bi:=hk.o.trans (c_.mono hk.o.size);have aV:=(bZ.o bi mz).2;have iZ:=Fx (bZ.o bi mz).1 ad ao (.func 78) #[] #[];rw[show((!ad||b3)&&(!ao||bJ))=hasB b3 bJ 3 from rfl] at iZ;rw[d6] at d0 d1 d2 aV;have mM:=I d6;have tw:=I (ee _ _ _ ky.o c_);have fY:=wu (hasB b3 bJ) 3;obtain⟨q,aO⟩:=al (hasB b3 bJ 3);rw[<-aO] at iZ fY;clear d6 aO;gi_wp2_with fail;rw[<-mM.o];refine jb iZ λbD cT=>?_;have hd:=I (show ae cJ bD from mz.trans (cT.mono mz.size));have rV:=ee _ _ _ tw.o cT;cases q with
    |false=>
     have yb:=I (show bG (f0 (hasB b3 bJ) 4) bD from by rw[fY];simpa using rV);gi_wp2_with fail;refine⟨λ_ h=>(by cases h),?_⟩;gi_wp2_with fail;go_roundw
     ·exact⟨4,G,by go_num,hd,yb⟩
     ·simp[cu]
    |true=>
     obtain⟨fn,tmps,assign,body,az,cf⟩:=ei _ (3:Int) bD rV sB;dsimp only[iI] at az;gi_wp2_with fail;refine cf.mono ?_;rintro e dI (⟨rfl,ho,dv⟩|⟨rfl,og⟩)
     ·have hQ:=I (show ae cJ dI from hd.o.trans dv);have lf:=I (show bG (f0 (hasB b3 bJ) 4) dI from by rw[fY];exact ho);gi_wp2_with fail;go_roundw
      ·exact⟨4,G,by go_num,hQ,lf⟩
      ·simp[cu]
     ·gi_wp2_with fail;refine gh (mQ rfl _ _ _) rfl ?_;exact⟨⟨_,rfl⟩,.inr ⟨_,trivial,og⟩⟩
   ·have nY:∀w,(uO 95 (aZ (tE cO cq)) (r c 4)).run aa w= .ok (aZ #[aA ao,aA ad,.func (.func 71) #[] #[]]) w:=λ_=>by kernel_rfl
    obtain⟨bi,d6⟩:=al (wr.alloc (an #[aA ao,aA ad,.func (.func 71) #[] #[]] 94));have c_:=dx d6;have k4:=eK d6 rfl;have d0:=aR k4 0;have d1:=aR k4 1;have d2:=aR k4 2;have mz:ae cJ bi:=hk.o.trans (c_.mono hk.o.size);have aV:=(bZ.o bi mz).2;have iZ:=Fx (bZ.o bi mz).1 ao ad (.func 71) #[] #[];rw[show((!ao||b3)&&(!ad||bJ))=hasB b3 bJ 4 from rfl] at iZ;rw[d6] at d0 d1 d2 aV;have mM:=I d6;have tw:=I (ee _ _ _ ky.o c_);have fY:=wu (hasB b3 bJ) 4;obtain⟨q,aO⟩:=al (hasB b3 bJ 4);rw[<-aO] at iZ fY;clear d6 aO;gi_wp2_with fail;rw[<-mM.o];refine jb iZ λbD cT=>?_;have hd:=I (show ae cJ bD from mz.trans (cT.mono mz.size));have rV:=ee _ _ _ tw.o cT;cases q with
    |false=>
     have yb:=I (show bG (f0 (hasB b3 bJ) 5) bD from by rw[fY];simpa using rV);gi_wp2_with fail;refine⟨λ_ h=>(by cases h),?_⟩;gi_wp2_with fail;go_roundw
     ·exact⟨5,G,by go_num,hd,yb⟩
     ·simp[cu]
    |true=>
     obtain⟨fn,tmps,assign,body,az,cf⟩:=ei _ (4:Int) bD rV sB;dsimp only[iI] at az;gi_wp2_with fail;refine cf.mono ?_;rintro e dI (⟨rfl,ho,dv⟩|⟨rfl,og⟩)
     ·have hQ:=I (show ae cJ dI from hd.o.trans dv);have lf:=I (show bG (f0 (hasB b3 bJ) 5) dI from by rw[fY];exact ho);gi_wp2_with fail;go_roundw
      ·exact⟨5,G,by go_num,hQ,lf⟩
      ·simp[cu]
     ·gi_wp2_with fail;refine gh (mQ rfl _ _ _) rfl ?_;exact⟨⟨_,rfl⟩,.inr ⟨_,trivial,og⟩⟩
   ·have nY:∀w,(uO 95 (aZ (tE cO cq)) (r c 5)).run aa w= .ok (aZ #[aA ad,aA ad,.func (.func 71) #[] #[]]) w:=λ_=>by kernel_rfl
    obtain⟨bi,d6⟩:=al (wr.alloc (an #[aA ad,aA ad,.func (.func 71) #[] #[]] 94));have c_:=dx d6;have k4:=eK d6 rfl;have d0:=aR k4 0;have d1:=aR k4 1;have d2:=aR k4 2;have mz:ae cJ bi:=hk.o.trans (c_.mono hk.o.size);have aV:=(bZ.o bi mz).2;have iZ:=Fx (bZ.o bi mz).1 ad ad (.func 71) #[] #[];rw[show((!ad||b3)&&(!ad||bJ))=hasB b3 bJ 5 from rfl] at iZ;rw[d6] at d0 d1 d2 aV;have mM:=I d6;have tw:=I (ee _ _ _ ky.o c_);have fY:=wu (hasB b3 bJ) 5;obtain⟨q,aO⟩:=al (hasB b3 bJ 5);rw[<-aO] at iZ fY;clear d6 aO;gi_wp2_with fail;rw[<-mM.o];refine jb iZ λbD cT=>?_;have hd:=I (show ae cJ bD from mz.trans (cT.mono mz.size));have rV:=ee _ _ _ tw.o cT;cases q with
    |false=>
     have yb:=I (show bG (f0 (hasB b3 bJ) 6) bD from by rw[fY];simpa using rV);gi_wp2_with fail;refine⟨λ_ h=>(by cases h),?_⟩;gi_wp2_with fail;go_roundw
     ·exact⟨6,G,by go_num,hd,yb⟩
     ·simp[cu]
    |true=>
     obtain⟨fn,tmps,assign,body,az,cf⟩:=ei _ (5:Int) bD rV sB;dsimp only[iI] at az;gi_wp2_with fail;refine cf.mono ?_;rintro e dI (⟨rfl,ho,dv⟩|⟨rfl,og⟩)
     ·have hQ:=I (show ae cJ dI from hd.o.trans dv);have lf:=I (show bG (f0 (hasB b3 bJ) 6) dI from by rw[fY];exact ho);gi_wp2_with fail;go_roundw
      ·exact⟨6,G,by go_num,hQ,lf⟩
      ·simp[cu]
     ·gi_wp2_with fail;refine gh (mQ rfl _ _ _) rfl ?_;exact⟨⟨_,rfl⟩,.inr ⟨_,trivial,og⟩⟩
  ·obtain rfl:k=6:=G;gi_wp2;go_end0;exact⟨⟨_,rfl⟩,.inl ⟨_,rfl,ky.o⟩⟩
theorem WE (h:rj w df g N b3 bJ):aE aa 9 #[J df 0] w λe D=>∃a R,e=au (E a (f0 (hasB b3 bJ) 6).length R)/\cR D (E a (f0 (hasB b3 bJ) 6).length R) (f0 (hasB b3 bJ) 6)/\ae w D:=by
 obtain⟨ay,bA⟩:=al (w.alloc (an #[J df 0] 33));have aX:=dx bA;have k1:=eK bA rfl;have iQ:SeqStopsK dY (5-1-1) aa 67 #[J w.heap.size 0] iI (bQ ay.heap.size) (λce=>ce=f0 (hasB b3 bJ) 6) (λ_=>True) 6 ay:=λgd bG iu W hb ee _ ei h0=>
  ayW 3 G gd w.heap.size ay (h.later aX) k1 bG iu (λx Q ai ak mf=>ee x Q ai T ak ⟨mf.os,mf.tape,mf.output,mf.size,λk K _=>mf.block k K⟩ (λU e=>by cases e)) ei W hb h0
 have cS:=I (im.1 (adc 5 G 67 _ _ 6 G (bQ ay.heap.size) ay iQ (fg aCu bq rfl) (λa b=>a.trans b) (λQ ai h _=>h)));have dd:=I (ayV df w);have dN:=db bA aX;clear bA;go_in;go_wp2_with fail;refine dl dd.o λeM h=>?_;rw[<-dN.o.1] at h;subst eM;go_wp2_with fail;refine cS.o.mono ?_;rintro e aJ ⟨v,rfl,ar,hb⟩;have aB:=jv rfl ar;obtain⟨a,R,aK,_⟩:=id aB;subst aK;have cj:=db aB (dN.o.2.next' hb);go_wp2_with fail;go_ret;exact⟨a,R,rfl,cj.o.1,cj.o.2⟩
theorem Ls (R:Int) (w:O):aE aa 28 #[aA ad,r c R] w λe D=>e=au (b8 #[])/\D=w:=by
 go_in;go_wp2_with fail;go_end0;exact⟨rfl,rfl⟩
theorem ahd {a':Nat} (h:rj w df g N b3 bJ) (h2:w.cell? (B a' 0)=A (J df 0)) {v:Nat} (aK:v<N):aE aa 26 #[r c v,J a' 0] w λe D=>e=au (aA ad)/\D=w:=by
 obtain⟨hf,_,af,gv,ga,eG,hb,dE,_⟩:=h;have gn:=I (show aE aa 27 #[J af 0] w λe D=>e=au (r c N)/\D=w from by rw[hf.nodes];exact l3 af g w dE);have bR:=aR hb 0;have js:(v:Int)<N:=G;have eP:=ew v;clear hb dE hf aK;go_in;go_wp2_with fail;refine eO gn.o ?_;go_wp2_with fail;go_ret;exact⟨rfl,rfl⟩
theorem ahe (p q:Addr) (w:O):CallsD aa 25 #[a6 (A p),a6 (A q)] .returning w λe ed D=>e=au (b8 #[])/\ed= .returning/\D=w:=by
 refine L2 func25 rfl λyD cs Z=>?_;simp only[ntmps25,g0,fV,gp,gA,g1,gI,gJ,gK,gL,f1,fW];apply Qr;apply Qs;simp[wpOpsS,go_sem,recoverD,Z,Exit.thenS];refine L3 ?_;go_wp2_with fail;exact⟨rfl,.returning,by cases yD;simp_all,b8 #[],mQ rfl _ _ _,rfl,rfl,rfl⟩
def C_ (k:Nat) (b3 bJ:Bool):Prop:=((k=2\/k=3\/k=5)->b3=ad)/\((k=4\/k=5)->bJ=ad)
theorem H2 (h:rj w df g N b3 bJ) {k:Int} (k0:0<=k) (k6:k<6) {qa nC:Bool} (ayX:(((!qa)||b3)&&((!nC)||bJ))=ad) {fn:FuncId} (anT:∀args w,(callFunc fn args).run aa w= .ok (.enter fn args) w) {cs:Nat->Nat->Array ac} (nY:∀cO cq w,(uO 95 (aZ (tE cO cq)) (r c k)).run aa w= .ok (aZ #[aA qa,aA nC,.func (.func fn) #[] (cs cO cq)]) w) (aB:s<N) (ht:t<N) (cr:Int)
 (ahf:∀u cO cq,s≠t->ae w u->(V u cO #[.func (.func 74) #[] #[]] 142 (0,0)/\V u cq #[.func (.func 75) #[] #[]] 142)->aE aa fn (#[J df 0,aZ #[r c k,r c s,r c t,r c cr]]++cs cO cq) u λe D=>p4 u (c1 g.arcs s t) e D):aE aa 10 #[J df 0,aZ #[r c k,r c s,r c t,r c cr]] w λe D=>p4 w (c1 g.arcs s t) e D:=by
 have hf:=h.1;have ahg:s=t->c1 g.arcs s t=0:=λe=>by subst e;exact aoq hf.ok _
 obtain⟨cl,iR⟩:=al (c1 g.arcs s t);rw[<-iR] at ahg ahf⊢;obtain⟨a',eB⟩:=al w.heap.size;obtain⟨bk,el⟩:=al (a'+1);obtain⟨bh,dW⟩:=al (bk+1);obtain⟨bF,eV⟩:=al (bh+1);obtain⟨ba,cg⟩:=al ((((w.alloc (an #[J df 0] 33)).alloc (an #[r c k,r c s,r c t,r c cr] 50)).alloc (an #[r c 0,r c 0,E T 0 0,E T 0 0] 45)).alloc (an #[E T 0 0] 46));have ck:ae w ba:=by rw[cg];exact(((fb).alloc a3 _).alloc (by simp;omega) _).alloc (by simp;omega) _
 have k2:V ba a' #[J df 0] 33:=by rw[cg,eB];exact(((V.new _ _ _ _).alloc _).alloc _).alloc _
 have k3:V ba bk #[r c k,r c s,r c t,r c cr] 50:=by
  have k:=V.new (w.alloc (an #[J df 0] 33)) #[r c k,r c s,r c t,r c cr] 50 (0,0);rw[d8] at k;rw[cg,el,eB];exact(k.alloc _).alloc _
 have k4:V ba bh #[r c 0,r c 0,E T 0 0,E T 0 0] 45:=by
  have k:=V.new ((w.alloc (an #[J df 0] 33)).alloc (an #[r c k,r c s,r c t,r c cr] 50)) #[r c 0,r c 0,E T 0 0,E T 0 0] 45 (0,0);rw[d8,d8] at k;rw[cg,dW,el,eB];exact k.alloc _
 have k5:V ba bF #[E T 0 0] 46:=by
  have k:=V.new (((w.alloc (an #[J df 0] 33)).alloc (an #[r c k,r c s,r c t,r c cr] 50)).alloc (an #[r c 0,r c 0,E T 0 0,E T 0 0] 45)) #[E T 0 0] 46 (0,0);rw[d8,d8,d8] at k;rw[cg,eV,dW,el,eB];exact k
 have cS:aM (∀u,ae ba u->u.cell? (B a' 0)=A (J df 0)/\u.cell? (B bk 0)=A (r c k)/\u.cell? (B bk 1)=A (r c s)/\u.cell? (B bk 2)=A (r c t)/\u.cell? (B bk 3)=A (r c cr)):=λu Z=>⟨(k2.aq Z).cell 0,(k3.aq Z).cell 0,(k3.aq Z).cell 1,(k3.aq Z).cell 2,(k3.aq Z).cell 3⟩;have bZ:=I (λu (Z:ae ba u)=>h.later (ck.next' Z));have cw:=I (λu (Z:ae ba u)=>cv (k4.aq Z) (cv (k5.aq Z) (ck.next' Z)));have go:=I (show w.heap.size<=bh/\w.heap.size<=bF/\bh≠bF by omega);have h4:=I cg;obtain⟨bR,aV,bb,ch,gR⟩:=cS.o ba (bx _ _);have g_:=@hJ aa;rw[cg] at bR aV bb ch gR;rw[eB] at bR;rw[el,eB] at aV bb ch gR;clear iR cg
 go_enter_defers func10,ntmps10
 go_wp2_with fail;rw[<-h4.o,<-eB,<-el,<-dW,<-eV];clear eB el dW eV;refine dl (afV (bZ.o _ (bx _ _))) λbi c_=>?_;obtain⟨bR,aV,bb,ch,gR⟩:=cS.o bi c_;have ayY:=I (ahd (bZ.o bi c_) bR aB);have ayZ:=I (ahd (bZ.o bi c_) bR ht);go_wp2_with fail;refine eO (Ls 15 bi) ?_;go_wp2_with fail;refine eO (Ls 16 bi) ?_;go_wp2_with fail;refine eO ayY.o ?_;go_wp2_with fail;refine eO (Ls 17 bi) ?_;go_wp2_with fail;refine eO ayZ.o ?_;go_wp2_with fail;refine eO (Ls 18 bi) ?_;obtain⟨bD,gm⟩:=al bi;have hd:=I (show ae ba bD by rw[gm];exact c_);have bC:aM (∀u,ae bD u->u.cell? (B bk 0)=A (r c k)):=λu Z=>(cS.o u (hd.o.next' Z)).2.1;go_wp2_with fail;rw[<-gm];clear gm;refine(FG (n:=9) (P:=aa)).1 (Dt [{target:= .fn (.func 25) #[J bh 0,J bF 0],args:=#[]}] (λ_ _=>False) (λ_ _ _ _ h=>h.elim) (Dv (F:=dY) (n:=9) (λD=>D.cell? (B bk 0)=A (r c k)) 5 rfl ?_));change ej _ _ _ _ _ _ _ 6 _ _ bD.drew;obtain⟨et,dm⟩:=al bD.drew;have aL:=I (show ae bD et by rw[dm];exact(bx _ _).drew);rw[<-dm];clear dm;refine ct 1 (J bk 0) (λ_=>bC.o _ aL.o) ?_;refine lH 2 (r c k) (bC.o _ aL.o) ?_;refine Bl ?_;intro H fH be b3;suffices ahh:∀(u:O) (cO:Nat) (cq:Nat) (b_:Nat),aM (ae bD u)->aM (V u cO #[.func (.func 74) #[] #[]] 142 (0,0)/\V u cq #[.func (.func 75) #[] #[]] 142)->aM (V u b_ #[aA ao,aA ao,mB] 94 (0,0)/\bD.heap.size<=b_)->H 1 #[ad,ad,ad,ad,ad,ao] {tmps:=(((be.setIfInBounds 32 (aZ (tE cO cq))).setIfInBounds 35 (aZ #[aA qa,aA nC,.func (.func fn) #[] (cs cO cq)])).setIfInBounds 7 (J b_ 0)),defers:=[{target:= .fn (.func 25) #[J bh 0,J bF 0],args:=#[]}]} u from by
  have ay0:∀(u:O) (b_:Nat),aM (ae bD u)->aM (V u b_ #[aA ao,aA ao,mB] 94 (0,0)/\bD.heap.size<=b_)->H 3 #[ao,ad,ad,ao,ad,ao] {tmps:=(be.setIfInBounds 7 (J b_ 0)),defers:=[{target:= .fn (.func 25) #[J bh 0,J bF 0],args:=#[]}]} u:=by
   intro u b_ aL AV;rw[fH,b3];simp only[bN,bM,bO];refine dJ 0 ?_;refine e3 30 #[] (WC u) ?_;rintro e cz ⟨cO,cq,rfl,j8,DK,hb⟩;refine⟨_,rfl,?_⟩;have hf:(V cz cO #[.func (.func 74) #[] #[]] 142 (0,0)/\V cz cq #[.func (.func 75) #[] #[]] 142):=⟨j8,DK⟩;have kI:=aL;have aL:aM (ae bD cz):=I (kI.o.trans (hb.mono kI.o.size));refine⟨λ_=>bC.o _ aL.o,?_⟩;simp only[bN,bM,bO];refine ct 3 (aZ #[aA qa,aA nC,.func (.func fn) #[] (cs cO cq)]) (λ_=>bC.o _ aL.o) ?_;have q:=ahh _ cO cq b_ aL (I hf) (I (⟨AV.o.1.aq hb,AV.o.2⟩));rw[fH,b3] at q;simp only[bN,bM,bO] at q⊢;exact q
  have ay1:∀(u:O) (cO:Nat) (cq:Nat),aM (ae bD u)->aM (V u cO #[.func (.func 74) #[] #[]] 142 (0,0)/\V u cq #[.func (.func 75) #[] #[]] 142)->H 2 #[ad,ad,ad,ad,ao,ao] {tmps:=((be.setIfInBounds 32 (aZ (tE cO cq))).setIfInBounds 35 (aZ #[aA qa,aA nC,.func (.func fn) #[] (cs cO cq)])),defers:=[{target:= .fn (.func 25) #[J bh 0,J bF 0],args:=#[]}]} u:=by
   intro u cO cq aL vS;rw[fH,b3];simp only[bN,bM,bO];refine dJ 4 ?_;have hb:ae u (u.alloc (an #[aA ao,aA ao,mB] 94)):=fb;have hf:V (u.alloc (an #[aA ao,aA ao,mB] 94)) u.heap.size #[aA ao,aA ao,mB] 94 (0,0)/\bD.heap.size<=u.heap.size:=⟨V.new _ _ _ _,aL.o.size⟩;refine gD (J u.heap.size 0) (u.alloc (an #[aA ao,aA ao,mB] 94)) ?_;have kI:=aL;have aL:aM (ae bD (u.alloc (an #[aA ao,aA ao,mB] 94))):=I (kI.o.trans (hb.mono kI.o.size));refine⟨λ_=>bC.o _ aL.o,?_⟩;simp only[bN,bM,bO];have q:=ahh _ cO cq u.heap.size aL (I (⟨vS.o.1.aq hb,vS.o.2.aq hb⟩)) (I hf);rw[fH,b3] at q;simp only[bN,bM,bO] at q⊢;exact q
  have ta:∀(u:O),aM (ae bD u)->H 4 #[ao,ad,ad,ao,ao,ao] {tmps:=be,defers:=[{target:= .fn (.func 25) #[J bh 0,J bF 0],args:=#[]}]} u:=by
   intro u aL;rw[fH,b3];refine Bk (i:=0) (k:=4) bq ?_ ?_
   ·refine e3 30 #[] (WC u) ?_;rintro e cz ⟨cO,cq,rfl,j8,DK,hb⟩;refine⟨_,rfl,?_⟩;have hf:(V cz cO #[.func (.func 74) #[] #[]] 142 (0,0)/\V cz cq #[.func (.func 75) #[] #[]] 142):=⟨j8,DK⟩;have kI:=aL;have aL:aM (ae bD cz):=I (kI.o.trans (hb.mono kI.o.size));refine⟨λ_=>bC.o _ aL.o,?_⟩;simp only[bN,bM,bO];refine ct 3 (aZ #[aA qa,aA nC,.func (.func fn) #[] (cs cO cq)]) (λ_=>bC.o _ aL.o) ?_;have q:=ay1 _ cO cq aL (I hf);rw[fH,b3] at q;simp only[bN,bM,bO] at q⊢;exact q
   ·have hb:ae u (u.alloc (an #[aA ao,aA ao,mB] 94)):=fb;have hf:V (u.alloc (an #[aA ao,aA ao,mB] 94)) u.heap.size #[aA ao,aA ao,mB] 94 (0,0)/\bD.heap.size<=u.heap.size:=⟨V.new _ _ _ _,aL.o.size⟩;refine gD (J u.heap.size 0) (u.alloc (an #[aA ao,aA ao,mB] 94)) ?_;have kI:=aL;have aL:aM (ae bD (u.alloc (an #[aA ao,aA ao,mB] 94))):=I (kI.o.trans (hb.mono kI.o.size));refine⟨λ_=>bC.o _ aL.o,?_⟩;simp only[bN,bM,bO];have q:=ay0 _ u.heap.size aL (I hf);rw[fH,b3] at q;simp only[bN,bM,bO] at q⊢;exact q
  exact ta et aL
 intro u cO cq b_ aL vS AV;rw[fH,b3];simp only[bN,bM,bO];have k7:=AV.o.1;have fU:=aR k7 0;have fO:=aR k7 1;have fD:=aR k7 2;have gx:=jw k7;have j5:=gx 0;have f6:=gx 1;have eF:=gx 2;obtain⟨cG,fq⟩:=al (((u.setCell (B b_ 0) (aA qa)).setCell (B b_ 1) (aA nC)).setCell (B b_ 2) (.func (.func fn) #[] (cs cO cq)));have k:=((k7.set 0 (aA qa)).set 1 (aA nC)).set 2 (.func (.func fn) #[] (cs cO cq));have jn:ae bD cG:=by
  rw[fq];exact((aL.o.setCell (p:=B b_ 0) AV.o.2 _).setCell (p:=B b_ 1) AV.o.2 _).setCell (p:=B b_ 2) AV.o.2 _
 have g4:V cG cO #[.func (.func 74) #[] #[]] 142:=by
  rw[fq];exact((vS.o.1.gr (B b_ 0) _ (λe=>by have e:cO=b_:=e;rw[<-e] at k7;exact absurd (er k7 vS.o.1) bj)).gr (B b_ 1) _ (λe=>by have e:cO=b_:=e;rw[<-e] at k7;exact absurd (er k7 vS.o.1) bj)).gr (B b_ 2) _ (λe=>by have e:cO=b_:=e;rw[<-e] at k7;exact absurd (er k7 vS.o.1) bj)
 have hK:V cG cq #[.func (.func 75) #[] #[]] 142:=by
  rw[fq];exact((vS.o.2.gr (B b_ 0) _ (λe=>by have e:cq=b_:=e;rw[<-e] at k7;exact absurd (er k7 vS.o.2) bj)).gr (B b_ 1) _ (λe=>by have e:cq=b_:=e;rw[<-e] at k7;exact absurd (er k7 vS.o.2) bj)).gr (B b_ 2) _ (λe=>by have e:cq=b_:=e;rw[<-e] at k7;exact absurd (er k7 vS.o.2) bj)
 refine dJ 5 ?_;refine lG cG ?_ (he:=by rw[fq];go_simp);rw[<-fq] at k;have cH:=jU k (hd.o.next' jn) g4 hK;clear fq;refine⟨gj,?_⟩;refine fc (tQ.normal ?_);obtain⟨bR,aV,bb,ch,gR⟩:=cS.o cG cH.o.2.1;have e0:=cH.o.1.cell 0;have br:=cH.o.1.cell 1;have a4:=cH.o.1.cell 2;simp at e0 br a4;have iZ:=Fx (bZ.o cG cH.o.2.1) qa nC (.func fn) #[] (cs cO cq);rw[ayX] at iZ;go_wp2_with fail;refine dl iZ λgY km=>?_;have Fa:=jU (cH.o.1.aq km) (cH.o.2.1.next' km) (cH.o.2.2.1.aq km) (cH.o.2.2.2.aq km);obtain⟨bR,aV,bb,ch,gR⟩:=cS.o gY Fa.o.2.1;obtain⟨k4,k5,hl⟩:=cw.o gY Fa.o.2.1;have gc:=aR k4 0;have f8:=aR k4 1;have h7:=aR k4 2;have oq:=aR k4 3;have ay2:=aR k5 0;have h':=jw k4;have zb:=h' 0;have g':=h' 1;have iE:=h' 2;have jx:=h' 3;have y6:=k5.free 0 (Or.inr (cQ _));go_wp2_with fail;refine eO (Ls 19 gY) ?_;by_cases hst:s=t
 ·have OS:((s:Int)==(t:Int))=ad:=by rw[beq_iff_eq];omega
  have h0:=ahg hst;have cW:=I ((((((k4.set 0 (r c 0)).set 1 (r c 0)).set 2 (E T 0 0)).set 3 (E T 0 0))).gr (B bF 0) (E T 0 0) go.o.2.2);have Ed:=I (((((k5.gr (B bh 0) (r c 0) (h8 go.o.2.2)).gr (B bh 1) (r c 0) (h8 go.o.2.2)).gr (B bh 2) (E T 0 0) (h8 go.o.2.2)).gr (B bh 3) (E T 0 0) (h8 go.o.2.2)).set 0 (E T 0 0));have Lq:=I (((((hl.setCell (p:=B bh 0) go.o.1 (r c 0)).setCell (p:=B bh 1) go.o.1 (r c 0)).setCell (p:=B bh 2) go.o.1 (E T 0 0)).setCell (p:=B bh 3) go.o.1 (E T 0 0)).setCell (p:=B bF 0) go.o.2.1 (E T 0 0));have WF:bh≠bF:=go.o.2.2;have ay3:bF≠bh:=h8 WF;go_wp2_with fail;refine Ii (f:=25) (args:=#[J bh 0,J bF 0]) a3 (by simp[go_sem]) ?_;refine(ahe (B bh 0) (B bF 0) _).mono ?_;rintro e ed fo ⟨rfl,rfl,rfl⟩;have r0:=cW.o.cell 0;have r1:=cW.o.cell 1;have r2:=cW.o.cell 2;have eC:=cW.o.cell 3;have kQ:=Ed.o.cell 0;simp at r0 r1 r2 eC kQ;refine⟨b8 #[aZ #[r c 0,r c 0,E T 0 0,E T 0 0],E T 0 0],by simp[results,aCv,go_sem,r0,r1,r2,eC,kQ],T,0,0,T,0,0,T,0,0,?_,Lq.o⟩;rw[h0];rfl
 ·have OS:((s:Int)==(t:Int))=ao:=by rw[beq_eq_false_iff_ne];omega
  have a4:=Fa.o.1.cell 2;simp at a4;have rC:=I (ahf gY cO cq hst hl Fa.o.2.2);have WF:bh≠bF:=go.o.2.2;have ay3:bF≠bh:=h8 WF;go_wp2_with fail;refine rC.o.mono ?_;rintro e u ⟨p1,b2,Lt,p2,cm,Lu,a8,bt,bp,rfl,hb⟩;obtain⟨k4,k5,hl⟩:=cw.o u (Fa.o.2.1.next' hb);have gc:=aR k4 0;have f8:=aR k4 1;have h7:=aR k4 2;have oq:=aR k4 3;have ay2:=aR k5 0;have h':=jw k4;have zb:=h' 0;have g':=h' 1;have iE:=h' 2;have jx:=h' 3;have y6:=k5.free 0 (Or.inr (cQ _));have cW:=I ((((((k4.set 0 (r c (i0 cl))).set 1 (r c (i1 cl))).set 2 (E p1 b2 Lt)).set 3 (E p2 cm Lu))).gr (B bF 0) (E a8 bt bp) go.o.2.2);have Ed:=I (((((k5.gr (B bh 0) (r c (i0 cl)) (h8 go.o.2.2)).gr (B bh 1) (r c (i1 cl)) (h8 go.o.2.2)).gr (B bh 2) (E p1 b2 Lt) (h8 go.o.2.2)).gr (B bh 3) (E p2 cm Lu) (h8 go.o.2.2)).set 0 (E a8 bt bp));have Lq:=I (((((hl.setCell (p:=B bh 0) go.o.1 (r c (i0 cl))).setCell (p:=B bh 1) go.o.1 (r c (i1 cl))).setCell (p:=B bh 2) go.o.1 (E p1 b2 Lt)).setCell (p:=B bh 3) go.o.1 (E p2 cm Lu)).setCell (p:=B bF 0) go.o.2.1 (E a8 bt bp));go_wp2_with fail;refine Ii (f:=25) (args:=#[J bh 0,J bF 0]) a3 (by simp[go_sem]) ?_;refine(ahe (B bh 0) (B bF 0) _).mono ?_;rintro e ed fo ⟨rfl,rfl,rfl⟩;have r0:=cW.o.cell 0;have r1:=cW.o.cell 1;have r2:=cW.o.cell 2;have eC:=cW.o.cell 3;have kQ:=Ed.o.cell 0;simp at r0 r1 r2 eC kQ;exact⟨b8 #[aZ #[r c (i0 cl),r c (i1 cl),E p1 b2 Lt,E p2 cm Lu],E a8 bt bp],by simp[results,aCv,go_sem,r0,r1,r2,eC,kQ],p1,b2,Lt,p2,cm,Lu,a8,bt,bp,rfl,Lq.o⟩
theorem ay4 (h:rj w df g N b3 bJ) (ay5:C_ 0 b3 bJ) (aB:s<N) (ht:t<N) (cr:Int):aE aa 10 #[J df 0,aZ #[r c 0,r c s,r c t,r c cr]] w λe D=>p4 w (c1 g.arcs s t) e D:=by
 have hf:=h.1;have aC:=hf.nodes;have p5:0<=((t:Nat):Int)/\((t:Nat):Int)<g.nodes:=G;have uS:0<=((s:Nat):Int)/\((s:Nat):Int)<g.nodes:=G;refine H2 h G G (qa:=ao) (nC:=ao) (rfl) (fg aCw bq rfl) (cs:=λcO _=>#[J cO 0]) (λ_ _ _=>by kernel_rfl) aB ht cr λu cO cq hst Z oV=>?_;obtain⟨_,_,af,gv,ga,eG,hb,dE,_⟩:=h;have n2:qC g N t []:= .inl rfl;refine ag4 (hb.aq Z) 74 (fg func74 bq rfl) oV.1 λv aK=>?_;rw[<-n2.acY hf.ok aC p5];exact UF (aG:=[]) (eG:=T) (ix:=0) (pi:=[]) ⟨hf,dE.a_ (bu.bg (Z.next' aK)),OR v,RK v,.inl rfl,.inl rfl,n2.pos hf.ok p5,rfl,G,G,n2.arcs hf.ok aC p5 [],n2.cl hf.ok aC uS p5 []⟩
theorem ay6 (h:rj w df g N b3 bJ) (ay5:C_ 1 b3 bJ) (aB:s<N) (ht:t<N) (cr:Int):aE aa 10 #[J df 0,aZ #[r c 1,r c s,r c t,r c cr]] w λe D=>p4 w (c1 g.arcs s t) e D:=by
 have hf:=h.1;have aC:=hf.nodes;have p5:0<=((t:Nat):Int)/\((t:Nat):Int)<g.nodes:=G;have uS:0<=((s:Nat):Int)/\((s:Nat):Int)<g.nodes:=G;refine H2 h G G (qa:=ao) (nC:=ao) (rfl) (fg aCw bq rfl) (cs:=λ_ cq=>#[J cq 0]) (λ_ _ _=>by kernel_rfl) aB ht cr λu cO cq hst Z oV=>?_;obtain⟨_,_,af,gv,ga,eG,hb,dE,_⟩:=h;have n2:Ct g N s t []:= .inl rfl;refine ag4 (hb.aq Z) 75 (fg func75 bq rfl) oV.2 λv aK=>?_;rw[<-n2.same hf.ok aC uS p5];exact agL (eG:=T) (ix:=0) hf (dE.a_ (bu.bg (Z.next' aK))) G G (OR v) (RK v) n2.len (n2.arcs hf.ok aC uS p5)
theorem ay7 (h:rj w df g N b3 bJ) (K:C_ 2 b3 bJ) (aB:s<N) (ht:t<N) (cr:Int):aE aa 10 #[J df 0,aZ #[r c 2,r c s,r c t,r c cr]] w λe D=>p4 w (c1 g.arcs s t) e D:=by
 have hf:=h.1;refine H2 h G G (qa:=ad) (nC:=ao) (by rw[K.1 G];cases bJ<;>rfl) (fg func76 bq rfl) (cs:=λ_ _=>#[]) (λ_ _ _=>by kernel_rfl) aB ht cr λu cO cq hst Z oV=>?_;obtain⟨_,_,af,gv,ga,eG,hb,dE,H3,_⟩:=h;rcases H3 with⟨e,_⟩|⟨_,bE,b0,rfl,h2,ap,bl⟩
 ·rw[K.1 G] at e;cases e
 ·exact ayI (hb.aq Z) λv aK=>ar7 hf (dE.a_ (bu.bg (Z.next' aK))) (h2.a_ (bu.bg (Z.next' aK))) ⟨ap,bl⟩ aB ht hst 2 cr
theorem ay8 (h:rj w df g N b3 bJ) (K:C_ 3 b3 bJ) (aB:s<N) (ht:t<N) (cr:Int):aE aa 10 #[J df 0,aZ #[r c 3,r c s,r c t,r c cr]] w λe D=>p4 w (c1 g.arcs s t) e D:=by
 have hf:=h.1;refine H2 h G G (qa:=ad) (nC:=ao) (by rw[K.1 G];cases bJ<;>rfl) (fg func78 bq rfl) (cs:=λ_ _=>#[]) (λ_ _ _=>by kernel_rfl) aB ht cr λu cO cq hst Z oV=>?_;obtain⟨_,_,af,gv,ga,eG,hb,dE,H3,_⟩:=h;rcases H3 with⟨e,_⟩|⟨_,bE,b0,rfl,h2,ap,bl⟩
 ·rw[K.1 G] at e;cases e
 ·exact ayS (hb.aq Z) λv aK=>ayD hf (dE.a_ (bu.bg (Z.next' aK))) (h2.a_ (bu.bg (Z.next' aK))) ⟨ap,bl⟩ aB ht hst 3 cr
theorem ay9 (h:rj w df g N b3 bJ) (K:C_ 4 b3 bJ) (aB:s<N) (ht:t<N) (cr:Int):aE aa 10 #[J df 0,aZ #[r c 4,r c s,r c t,r c cr]] w λe D=>p4 w (c1 g.arcs s t) e D:=by
 have hf:=h.1;refine H2 h G G (qa:=ao) (nC:=ad) (by rw[K.2 G];cases b3<;>rfl) (fg aCx bq rfl) (cs:=λ_ _=>#[]) (λ_ _ _=>by kernel_rfl) aB ht cr λu cO cq hst Z oV=>?_;obtain⟨_,_,af,gv,ga,eG,hb,dE,H3,CS⟩:=h;have sk:AL w g N (a6 gv) 4:= .inl rfl;rcases CS with⟨e,_⟩|⟨_,dk,du,of,many,bs,l,rfl,rfl,aP⟩
 ·rw[K.2 G] at e;cases e
 ·exact ag3 (hb.aq Z) λv aK=>ad1 (aP.later (Z.next' aK)) (sk.later (Z.next' aK)) aB ht hst cr
theorem ay_ (h:rj w df g N b3 bJ) (K:C_ 5 b3 bJ) (aB:s<N) (ht:t<N) (cr:Int):aE aa 10 #[J df 0,aZ #[r c 5,r c s,r c t,r c cr]] w λe D=>p4 w (c1 g.arcs s t) e D:=by
 have hf:=h.1;refine H2 h G G (qa:=ad) (nC:=ad) (by rw[K.1 G,K.2 G];rfl) (fg aCx bq rfl) (cs:=λ_ _=>#[]) (λ_ _ _=>by kernel_rfl) aB ht cr λu cO cq hst Z oV=>?_;obtain⟨_,_,af,gv,ga,eG,hb,dE,H3,CS⟩:=h;have sk:AL w g N (a6 gv) 5:=by
  rcases H3 with⟨e,_⟩|⟨_,bE,b0,rfl,h2,ap,bl⟩
  ·rw[K.1 G] at e;cases e
  ·exact .inr ⟨rfl,bE,b0,rfl,h2,ap,bl⟩
 rcases CS with⟨e,_⟩|⟨_,dk,du,of,many,bs,l,rfl,rfl,aP⟩
 ·rw[K.2 G] at e;cases e
 ·exact ag3 (hb.aq Z) λv aK=>ad1 (aP.later (Z.next' aK)) (sk.later (Z.next' aK)) aB ht hst cr
def Da:Raw:=⟨3,[0,1,2],[0,0,0],C'⟩
theorem aza:jz Da 3:=by
 refine⟨⟨bj,bj,bj,λx ak=>?_,λx ak=>?_,bj,λa ha=>?_⟩,bj,bj,bj⟩
 ·simp only[Da,gg,iS,or_false] at ak;unfold oP;omega
 ·simp only[Da,gg,iS,or_false] at ak;unfold oP;omega
 ·simp only[Da,C',gg,iS,or_false] at ha;unfold wd;rcases ha with rfl|rfl|rfl<;>decide
theorem azb (w:O):∃bi,bi=(((w.alloc (an #[r c 0,r c 1,r c 2] 2)).alloc (an #[r c 0,r c 0,r c 0] 2)).alloc (an #[r c 0,r c 1,r c 2,r c 1,r c 2,r c 3,r c 0,r c 2,r c 6] 57)).alloc (an #[r c 3,E (A (B w.heap.size 0)) 3 3,E (A (B (w.heap.size+1) 0)) 3 3,E (A (B (w.heap.size+1+1) 0)) 3 3] 31)/\
 uZ bi (aZ #[r c 3,E (A (B w.heap.size 0)) 3 3,E (A (B (w.heap.size+1) 0)) 3 3,E (A (B (w.heap.size+1+1) 0)) 3 3]) Da/\ae w bi:=by
 obtain⟨dV,h1⟩:=al (w.alloc (an #[r c 0,r c 1,r c 2] 2));obtain⟨cz,h2⟩:=al (dV.alloc (an #[r c 0,r c 0,r c 0] 2));obtain⟨hI,ap⟩:=al (cz.alloc (an #[r c 0,r c 1,r c 2,r c 1,r c 2,r c 3,r c 0,r c 2,r c 6] 57));have s1:dV.heap.size=w.heap.size+1:=by rw[h1];simp
 have fX:cz.heap.size=w.heap.size+1+1:=by rw[h2];simp[s1]
 have k1:=eK h1 rfl;have k2:V cz (w.heap.size+1) #[r c 0,r c 0,r c 0] 2:=by rw[h2,<-s1];exact V.new _ _ _ _
 have k3:V hI (w.heap.size+1+1) #[r c 0,r c 1,r c 2,r c 1,r c 2,r c 3,r c 0,r c 2,r c 6] 57:=by rw[ap,<-fX];exact V.new _ _ _ _
 refine⟨_,rfl,?_,((((fb).alloc a3 _).alloc (by simp;omega) _).alloc (by simp;omega) _)⟩;rw[<-h1,<-h2,<-ap];have q1:=((k1.alloc (an #[r c 0,r c 0,r c 0] 2)).alloc (an #[r c 0,r c 1,r c 2,r c 1,r c 2,r c 3,r c 0,r c 2,r c 6] 57)).alloc (an #[r c 3,E (A (B w.heap.size 0)) 3 3,E (A (B (w.heap.size+1) 0)) 3 3,E (A (B (w.heap.size+1+1) 0)) 3 3] 31);have q2:=(k2.alloc (an #[r c 0,r c 1,r c 2,r c 1,r c 2,r c 3,r c 0,r c 2,r c 6] 57)).alloc (an #[r c 3,E (A (B w.heap.size 0)) 3 3,E (A (B (w.heap.size+1) 0)) 3 3,E (A (B (w.heap.size+1+1) 0)) 3 3] 31);have bm:=k3.alloc (an #[r c 3,E (A (B w.heap.size 0)) 3 3,E (A (B (w.heap.size+1) 0)) 3 3,E (A (B (w.heap.size+1+1) 0)) 3 3] 31);rw[<-h2,<-ap] at q1;rw[<-ap] at q2;refine⟨_,_,_,rfl,⟨_,3,rfl,bj,bj,λi ag=>⟨_,0,_,_,_,rfl,q1,?_⟩⟩,⟨_,3,rfl,bj,bj,λi ag=>⟨_,0,_,_,_,rfl,q2,?_⟩⟩,⟨_,3,rfl,bj,bj,λi ag=>⟨_,0,_,_,_,rfl,bm,?_⟩⟩⟩;all_goals
  obtain rfl|rfl|rfl:i=0\/i=1\/i=2:=by simp[Da,C'] at ag;omega
 all_goals first|rfl|exact⟨rfl,rfl,rfl⟩
theorem Fy (h:rj w df g N b3 bJ) {k:Nat} (Gp:k<6) (K:C_ k b3 bJ) (aB:s<N) (ht:t<N) (cr:Int):aE aa 10 #[J df 0,aZ #[r c k,r c s,r c t,r c cr]] w λe D=>p4 w (c1 g.arcs s t) e D:=by
 obtain rfl|rfl|rfl|rfl|rfl|rfl:k=0\/k=1\/k=2\/k=3\/k=4\/k=5:=G
 ·exact ay4 h K aB ht cr
 ·exact ay6 h K aB ht cr
 ·exact ay7 h K aB ht cr
 ·exact ay8 h K aB ht cr
 ·exact ay9 h K aB ht cr
 ·exact ay_ h K aB ht cr
theorem ahi (w:O) (hg:HG w):aE aa 5 #[] w λe D=>e=au (aA ad)/\ae w D:=by
 obtain⟨bi,d6,cf,c_⟩:=azb w;have bP:=I (show aE aa 7 #[aZ #[r c 3,E (A (B w.heap.size 0)) 3 3,E (A (B (w.heap.size+1) 0)) 3 3,E (A (B (w.heap.size+1+1) 0)) 3 3],aZ #[r c 1,r c 0,E T 0 0,r c 1,r c 2]] bi λe D=>∃df,e=au (b8 #[J df 0,.nilIface])/\rj D df Da 3 ad ad/\ae bi D from
  V1 (k:=1) (R:=2) (fu:=0) (eh:=1) (l:=[]) (hg.later c_) aza bj cf ⟨T,0,rfl,bY _,by unfold maxLen;omega,λi ag=>absurd ag (Dh i)⟩ bj (λx ak=>by cases ak) bj (.inl rfl) (.inr (.inl rfl)) ⟨bj,bj⟩)
 have dN:=db d6 c_;clear hg d6 cf c_;go_in;go_wp2_with fail;rw[<-dN.o.1];refine bP.o.mono ?_;rintro e bD ⟨df,rfl,bS,cT⟩;have bZ:=db bS cT;have wY:=I (WE bS);rw[show(f0 (hasB ad ad) 6).length=6 from by decide] at wY;clear bP bS cT;go_wp2_with fail;refine wY.o.mono ?_;rintro e cG ⟨a,R,rfl,_,jn⟩;have Fe:=I jn;clear wY jn;go_wp2_with fail;go_loopw [4] (λi wr=>∃k:Nat,k<=6/\i=r c k/\aM (ae cG wr)) (λi _=>6-(cu i).toNat)
 ·exact⟨0,G,rfl,I (bx _ _)⟩
 ·obtain⟨k,K,rfl,cW⟩:=hrel;by_cases a0:k<6
  ·have ie:(k:Int)<6:=G;have k0:=ew k;have ov:=I (Fy ((bZ.o.1.later Fe.o).later cW.o) a0 ⟨λ_=>rfl,λ_=>rfl⟩ (s:=0) (t:=2) bj bj 0);go_wp2_with fail;refine ov.o.mono ?_;rintro e gY ⟨p1,b2,aV,p2,cm,bb,a8,bt,bp,rfl,km⟩;rw[show c1 Da.arcs ((0:Nat):Int) ((2:Nat):Int)=5 from ay',show i0 5=0 from bj,show i1 5=5 from by decide];have l6:=I (cW.o.next' km);clear ov km;go_wp2_with fail;go_roundw
   ·exact⟨k+1,G,by go_num,I (l6.o.alloc (by exact l6.o.size) _)⟩
   ·simp[cu];omega
  ·obtain rfl:k=6:=G;go_wp2_with fail;go_ret;exact⟨rfl,dN.o.2.next' (bZ.o.2.next' (Fe.o.next' cW.o))⟩
theorem rem_in {x n:Int} (h:0<=x) (b1:(N:Int)=n) (h1:1<=n):∃k:Nat,x.tmod n=(k:Int)/\k<N:=by
 have e:x.tmod n=x%n:=Dl h;have h1:=Ij x (show n≠0 by omega);have h2:=FN x (show 0<n by omega);exact⟨(x%n).toNat,G,G⟩
theorem H4 {k:Nat} (h:hasB b3 bJ k=ad):C_ k b3 bJ:=by
 unfold hasB at h;constructor
 ·rintro(rfl|rfl|rfl)<;>revert h<;>cases b3<;>cases bJ<;>decide
 ·rintro(rfl|rfl)<;>revert h<;>cases b3<;>cases bJ<;>decide
theorem ahj (b3 bJ:Bool):1<=(f0 (hasB b3 bJ) 6).length/\(f0 (hasB b3 bJ) 6).length<=6:=by cases b3<;>cases bJ<;>decide
theorem ahk (Q:List bd) (s t:Int):pn Q s t=(i0 (c1 Q s t),i1 (c1 Q s t)):=by
 unfold pn i0 i1;by_cases h:c1 Q s t<72057594037927936
 ·rw[if_pos h,if_neg G,if_neg G]
 ·rw[if_neg h,if_pos G,if_pos G]
end
section
open Go.RowKit Go.Deep
theorem Lv {P:Program} {t:cY} {R:ac} (ht:P.underlying t=A (.int dA)) (h:Rd P w t [R]):∃x:Int,R= .int dA x/\0<=x/\x<=255:=by
 obtain⟨x,e,bU⟩:=Rd.int (k:=dA) ht h;cases e;exact⟨x,rfl,by simpa [Lit.wf,aip,aiq,air,ais] using bU⟩
theorem Rd.ahl {cs:Array ac} (h:Rd aa w 25 cs.toList):∃o1 cU fl eh bL fu aq g2,(aZ cs:ac)=w4 o1 fl fu cU eh bL/\ip w o1 dA aq/\ip w cU .u32 g2/\(∀x∈g2,0<=x/\x<4294967296)/\(0<=fl/\fl<=255)/\(0<=eh/\eh<=255)/\0<=bL/\bL<=255:=by
 obtain⟨eJ⟩:=cs;obtain⟨aw,_⟩:=Rd.struct It h;have aw:=aw.trans (show prog.cellsOf 25=6 by kernel_rfl)
 match eJ,aw with
 |[e0,br,a4,en,od,sb],_=>
  obtain⟨aq,hb,_⟩:=Rd.ints (k:=dA) underlying22 Mj bq (Rd.field (e:=22) (R:=e0) It h 0 bq bq rfl);obtain⟨fl,rfl,tm⟩:=Lv Mj (Rd.field (e:=5) (R:=br) It h 1 bq bq rfl);obtain⟨fu,ar⟩:=Rd.bool underlying4 (Rd.field (e:=4) (R:=a4) It h 2 bq bq rfl);cases ar;obtain⟨g2,a9,s6⟩:=Rd.ints (k:= .u32) XY underlying275 bq (Rd.field (e:=23) (R:=en) It h 3 bq bq rfl);obtain⟨eh,rfl,k0⟩:=Lv Mj (Rd.field (e:=5) (R:=od) It h 4 bq bq rfl);obtain⟨bL,rfl,qJ⟩:=Lv Mj (Rd.field (e:=5) (R:=sb) It h 5 bq bq rfl);refine⟨e0,en,fl,eh,bL,fu,aq,g2,rfl,hb,a9,λx ak=>?_,tm,k0,qJ⟩;have:0<=x/\x<=4294967295:=by simpa [Lit.wf,aip,aiq,air,ais] using s6 x ak
  omega
theorem Rd.WG {cs:Array ac} (h:Rd aa w 26 cs.toList):∃a b R:Int,cs=#[.int dA a,.int dA b,.int dA R]/\(0<=a/\a<=255)/\(0<=b/\b<=255)/\0<=R/\R<=255:=by
 have Z:=underlying26;have aw:=(Rd.array Z h).1.trans (show prog.cellsOf 26=3 by kernel_rfl);obtain⟨l⟩:=cs
 match l,aw with
 |[bR,aV,bb],_=>
  have g:∀i R,i<3->[bR,aV,bb][i]? =A R->∃x:Int,R= .int dA x/\0<=x/\x<=255:=λi R ag ah=>Lv Mj (Rd.elem (e:=5) Z h i ag bq ah);obtain⟨a,rfl,ha⟩:=g 0 _ G rfl;obtain⟨b,rfl,hb⟩:=g 1 _ G rfl;obtain⟨R,rfl,ah⟩:=g 2 _ G rfl;exact⟨a,b,R,rfl,ha,hb,ah⟩
end
end Go.Proofs.YtnmliebconiefaaGreatDoor
