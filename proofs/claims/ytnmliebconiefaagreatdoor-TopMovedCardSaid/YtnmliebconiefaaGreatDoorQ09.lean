/- Texts of TopTriangle's and TopMoved's walks, made small by a printer; no conditions. -/
import Derived.Test.YtnmliebconiefaaGreatDoorQ08
import Derived.Deep.MidRow
open And renaming intro→cv
open Bool renaming false→ao,true→ad
open Go renaming Addr→cp,Calls→aE,Value→ac,World→O,callFunc→gM,goInt→sK,maxLen→ff,results→gq,wpAnyH→gV
open Go.Act renaming eval→io
open Go.Builtin renaming append_→qN
open Go.Ending renaming returned→au
open Go.Instr renaming entryStore→xb,lookup→l',mapEntry→xa
open Go.IntKind renaming i64→c
open Go.Obj renaming cells→an
open Go.Proofs.Tryz renaming prog→aa,results125→aCt,results75→aiW,results79→aCs
open Go.RowKit renaming Below→bQ
open Go.Value renaming agg→aZ,bool→aA,int→r,nilFunc→mB,pointer→a6,slice→E,tuple→b8,oneCell'→v7,slice→iB
open List renaming length→pA,range→m8
open Option renaming none→T,some→A
namespace Go.Proofs.YtnmliebconiefaaGreatDoor
open Go.RowKit Go.Shelf Go.Proofs.Tryz
set_option linter.all false
set_option maxRecDepth 100000
set_option maxHeartbeats 32000000
def aCr:=@Array.getElem?_setIfInBounds
def X0:=@List.countP_cons
def aiU:=@Option.getD_none
def aiV:=@Option.isSome_none
def XZ:=@Option.isSome_some
variable {aU:Bool} {cr d dF found meet v:Int} {aj:List Int} {M aD bE df k n:Nat} {F o3 w6:Nat → Prop} {D W u w:O} {eG ga:Option cp} {bo:ac} {aI cE ez gT:f5} {aT da f7 ik:hC}
structure i' (aU:Bool) (w:O) (q af N M aD:Nat) (s t:Int) (cB cy bo:ac) (found meet:Int) (aT da:hC) (aI cE:f5):Prop where
 aH:V w q #[J af 0,r c s,r c t,cB,cy,a6 (A ⟨(if aU then da.cD else aT.cD),0,T⟩),a6 (A ⟨(if aU then aT.cD else da.cD),0,T⟩),r c found,E T 0 0,bo,r c meet] 217
 iN:Hd w N M aT aI
 rk:Hd w N M da cE
 Cp:∀k,n0 aT aI k->¬n0 da cE k
 kM:∃b7,w.ownsRow 0 310 4 bo aD b7
 nq:¬n0 aT aI q/\¬n0 da cE q
 wK:∀k,bo.ownBlock=A k->¬n0 aT aI k/\¬n0 da cE k
def nE (q:Nat) (bo:ac) (aT da:hC) (aI cE:f5) (k:Nat):Prop:=k=q\/n0 aT aI k\/n0 da cE k\/bo.ownBlock=A k
theorem nE.flip {q:Nat} (h:nE q bo aT da aI cE k):nE q bo da aT cE aI k:=by
 rcases h with h|h|h|h
 ·exact .inl h
 ·exact .inr (.inr (.inl h))
 ·exact .inr (.inl h)
 ·exact .inr (.inr (.inr h))
theorem i'.flip {q af N:Nat} {s t:Int} {cB cy:ac} (h:i' aU w q af N M aD s t cB cy bo found meet aT da aI cE):i' (!aU) w q af N M aD s t cB cy bo found meet da aT cE aI:=by
 refine⟨?_,h.rk,h.iN,λk h1 h2=>h.Cp k h2 h1,h.kM,⟨h.nq.2,h.nq.1⟩,λk K=>⟨(h.wK k K).2,(h.wK k K).1⟩⟩;have:=h.aH;cases aU<;>exact this
theorem i'.af9 {q af N:Nat} {s t:Int} {cB cy:ac} (h:i' ao w q af N M aD s t cB cy bo found meet aT da aI cE):TO w q af N M aD s t cB cy bo found meet aT da aI cE:=⟨h.aH,h.iN,h.rk,h.Cp,h.kM,h.nq,h.wK⟩
theorem i'.lt {q af N:Nat} {s t:Int} {cB cy:ac} (h:i' aU w q af N M aD s t cB cy bo found meet aT da aI cE) (K:nE q bo aT da aI cE k):k<w.heap.size:=by
 rcases K with rfl|e|e|e
 ·exact h.aH.lt
 ·exact e5.lt h.iN e
 ·exact e5.lt h.rk e
 ·obtain⟨b7,h2⟩:=h.kM;exact(di h2 e).2.choose_spec.lt
theorem i'.dy {q af N:Nat} {s t:Int} {cB cy:ac} (h:i' aU w q af N M aD s t cB cy bo found meet aT da aI cE) (aB:w.heap.size<=D.heap.size) (hb:∀k,nE q bo aT da aI cE k->D.heap[k]? =w.heap[k]?):i' aU D q af N M aD s t cB cy bo found meet aT da aI cE:=by
 obtain⟨b7,h2⟩:=h.kM;exact⟨(hb q (.inl rfl)).trans h.aH,e5.dy h.iN aB λk K=>hb k (.inr (.inl K)),e5.dy h.rk aB λk K=>hb k (.inr (.inr (.inl K))),h.Cp,⟨b7,fB h2 λk K=>hb k (.inr (.inr (.inr K)))⟩,h.nq,h.wK⟩
theorem i'.below {q af N:Nat} {s t:Int} {cB cy:ac} (h:i' aU w q af N M aD s t cB cy bo found meet aT da aI cE) (hb:ae w D):i' aU D q af N M aD s t cB cy bo found meet aT da aI cE:=h.dy hb.size λk K=>hb.block k (h.lt K)
theorem i'.Co {q af N:Nat} {s t:Int} {cB cy:ac} (h:i' aU w q af N M aD s t cB cy bo found meet aT da aI cE) {b:Nat} {cs:Array ac} {u7:TypeId} {fr:Nat×Nat} (hb:V w b cs u7 fr) (ht:u7≠310):∀k,bo.ownBlock=A k->k≠b:=λk K e=>by
 obtain⟨b7,r2⟩:=h.kM;obtain⟨_,_,aO⟩:=di r2 K;subst e;exact ht (er hb aO)
theorem i'.slice {q af N:Nat} {s t:Int} {cB cy:ac} (h:i' aU w q af N M aD s t cB cy bo found meet aT da aI cE):∃a n R,bo=E a n R:=by
 obtain⟨b7,_,r2⟩:=h.kM;rcases r2 with⟨e,_⟩|⟨g,R,cur,e,_⟩
 ·exact⟨_,_,_,e⟩
 ·exact⟨_,_,_,e⟩
theorem i'.C2 {q af N:Nat} {s t:Int} {cB cy:ac} {M2:Nat} {dn:f5} (h:i' aU w q af N M aD s t cB cy bo found meet aT da aI cE) (hA:Hd D N M2 aT dn) (dU:M<=M2) (K:Kept (n0 aT aI) w D) (hF:∀k,n0 aT dn k->n0 aT aI k\/w.heap.size<=k):i' aU D q af N M2 aD s t cB cy bo found meet aT da dn cE:=by
 obtain⟨b7,h2⟩:=h.kM;refine⟨K.aH h.aH h.nq.1,hA,e5.grow (e5.dy h.rk K.size λk cd=>K.block k (e5.lt h.rk cd) λLb=>h.Cp k Lb cd) dU,λk Lb cd=>?_,⟨b7,fB h2 λk aK=>K.block k ((di h2 aK).2.choose_spec.lt) (h.wK k aK).1⟩,⟨λaO=>?_,h.nq.2⟩,λk aK=>⟨λLb=>?_,(h.wK k aK).2⟩⟩
 ·rcases hF k Lb with e|e
  ·exact h.Cp k e cd
  ·have:=e5.lt h.rk cd;omega
 ·rcases hF q aO with e|e
  ·exact h.nq.1 e
  ·have:=h.aH.lt;omega
 ·rcases hF k Lb with e|e
  ·exact(h.wK k aK).1 e
  ·have:=(di h2 aK).2.choose_spec.lt;omega
theorem i'.axs {q af N:Nat} {s t:Int} {cB cy:ac} (h:i' aU w q af N M aD s t cB cy bo found meet aT da aI cE) (iy i_:Int):i' aU ((w.setCell (B q 7) (r c iy)).setCell (B q 10) (r c i_)) q af N M aD s t cB cy bo iy i_ aT da aI cE:=by
 obtain⟨b7,h2⟩:=h.kM;have b9:∀k,k≠q->((w.setCell (B q 7) (r c iy)).setCell (B q 10) (r c i_)).heap[k]? =w.heap[k]? :=λk K=>by
  rw[d7 _ _ _ _ K,d7 _ _ _ _ K]
 exact⟨(h.aH.set 7 _).set 10 _,e5.dy h.iN a3 λk K=>b9 k λe=>h.nq.1 (e▸K),e5.dy h.rk a3 λk K=>b9 k λe=>h.nq.2 (e▸K),h.Cp,⟨b7,fB h2 λk K=>b9 k (h.Co h.aH bj k K)⟩,h.nq,h.wK⟩
def kZ (F w6:Nat->Prop) (w D:O):Prop:=Kept F w D/\∀k,w6 k->F k\/w.heap.size<=k
theorem kZ.refl (F:Nat->Prop) (w:O):kZ F F w w:=⟨Kept.refl _ _,λ_ h=> .inl h⟩
theorem kZ.bg (F:Nat->Prop) (h:ae w D):kZ F F w D:=⟨Kept.bg h,λ_ h=> .inl h⟩
theorem kZ.trans {af_:Nat->Prop} {Q ai aF:O} (h:kZ F w6 Q ai) (k:kZ w6 af_ ai aF):kZ F af_ Q aF:=by
 refine⟨⟨k.1.os.trans h.1.os,k.1.tape.trans h.1.tape,k.1.output.trans h.1.output,cM h.1.size k.1.size,λj av aC=>?_⟩,λj av=>?_⟩
 ·refine(k.1.block j (jP av h.1.size) (λhf=>?_)).trans (h.1.block j av aC);rcases h.2 j hf with e|e
  ·exact aC e
  ·omega
 ·rcases k.2 j av with e|e
  ·exact h.2 j e
  ·exact .inr (cM h.1.size e)
theorem kZ.row (h:kZ F w6 w D) {am:Nat} (hF:∀k,F k->k<am) {e:TypeId} {J9:Nat} {v:ac} {b7:List ac} (ar:w.ownsRow am e J9 v n b7):D.ownsRow am e J9 v n b7:=
 fB ar λk K=>h.1.block k ((di ar K).2.choose_spec.lt) λhf=>by
  have h1:=(ar.lt k K).1;have h2:=hF k hf;omega
theorem kZ.below {bH:O} {am:Nat} (h:kZ F w6 w D) (hb:bQ am bH w) (aw:am<=w.heap.size) (hF:∀k,F k->am<=k):bQ am bH D/\∀k,w6 k->am<=k:=
 ⟨hb.trans (h.1.below aw hF),λk K=>by
  rcases h.2 k K with e|e
  ·exact hF k e
  ·omega⟩
theorem kZ.mono {yr:Nat->Prop} (K:Kept yr w D) (l2:∀k,yr k->F k) (h:∀k,w6 k->F k\/w.heap.size<=k):kZ F w6 w D:=⟨K.mono l2,h⟩
theorem i'.push {q af N:Nat} {s t:Int} {cB cy:ac} (h:i' aU w q af N M aD s t cB cy bo found meet aT da aI cE) (is:aD<=1000000) (c0 cI dB hX:ac) (ak:∀x∈[c0,cI,dB,hX],x.oneCell'=ad) {ka:Nat} (hj:ae w u) (cd:V u ka #[c0,cI,dB,hX] 310):
 ∃a n R D,(qN #[46,46] 46 #[bo,E (A (B ka 0)) 1 1]).run aa u= .ok (E a n R) D/\(∃z,D.cell? (B q 9)=A z)/\D.frozen? (B q 9)=ao/\
  i' aU (D.setCell (B q 9) (E a n R)) q af N M (aD+1) s t cB cy (E a n R) found meet aT da aI cE/\kZ (nE q bo aT da aI cE) (nE q (E a n R) aT da aI cE) w (D.setCell (B q 9) (E a n R)):=by
 obtain⟨eP,ag,fL,gi,gt⟩:=m6 acA;have aB:r_ 4 u (E (A (B ka 0)) 1 1) 1 [c0,cI,dB,hX]:=⟨rfl,ak,_,1,rfl,bY _,by unfold ff;omega,λj y az=>⟨ka,0,rfl,by rw[jC,cd.cell,la];exact az⟩⟩;have TM:=h.below hj;obtain⟨ce,TN⟩:=TM.kM;obtain⟨ca,D,ar,aQ,hg,gP,_⟩:=tU (P:=aa) 0 46 46 310 eP _ 4 32 underlying46 ag fL gi gt rfl G bo aD _ TN _ 1 _ aB (by unfold ff;omega) G (cQ _);obtain⟨a,n,R,rfl⟩:∃a n R,ca=E a n R:=by
  obtain⟨_,h2⟩:=aQ;rcases h2 with⟨e,_⟩|⟨g,R,cur,e,_⟩
  ·exact⟨_,_,_,e⟩
  ·exact⟨_,_,_,e⟩
 have yz:∀k,k<u.heap.size->bo.ownBlock≠A k->D.heap[k]? =u.heap[k]? :=λk K aC=>hg.block k K (λe=>aC e.symm);have iP:∀k,k<w.heap.size->bo.ownBlock≠A k->D.heap[k]? =w.heap[k]? :=λk K aC=>(yz k (jP K hj.size) aC).trans (hj.block k K);have af':bo.ownBlock≠A q:=λe=>h.Co h.aH bj q e rfl;have nZ:V D q _ 217:=(iP q h.aH.lt af').trans h.aH;have EB:∀k,(iB a n R).ownBlock=A k->bo.ownBlock=A k\/w.heap.size<=k:=λk K=>by
  rcases gP with e|e
  ·exact .inl (e▸K)
  ·rw[e] at K;exact .inr (g3 (eT K) hj.size)
 have Ad:∀k,(iB a n R).ownBlock=A k->k≠q:=λk K e=>by
  subst e;rcases EB k K with a4|a4
  ·exact af' a4
  ·have:=h.aH.lt;omega
 have hK:∀j,j≠q->(D.setCell (B q 9) (E a n R)).heap[j]? =D.heap[j]? :=λj av=>d7 _ _ _ _ av;have hP:w.heap.size<=D.heap.size:=cM hj.size hg.size;have aga:∀k,(n0 aT aI k\/n0 da cE k)->(D.setCell (B q 9) (E a n R)).heap[k]? =w.heap[k]? :=λk K=>by
  have a0:k<w.heap.size:=h.lt (K.elim (λe=> .inr (.inl e)) λe=> .inr (.inr (.inl e)));rw[hK k λe=>by rw[e] at K;exact K.elim h.nq.1 h.nq.2];exact iP k a0 λe=>K.elim (h.wK k e).1 (h.wK k e).2
 refine⟨a,n,R,D,ar,⟨_,nZ.cell 9⟩,nZ.free 9 (.inr (cQ _)),⟨nZ.set 9 _,e5.dy h.iN (by simpa using hP) λk K=>aga k (.inl K),e5.dy h.rk (by simpa using hP) λk K=>aga k (.inr K),h.Cp,⟨_,fB aQ λk K=>hK k (Ad k K)⟩,h.nq,λk K=>?_⟩,?_,λk K=>?_⟩
 ·rcases EB k K with e|e
  ·exact h.wK k e
  ·exact⟨λhf=>(bI (e5.lt h.iN hf)),λhf=>(bI (e5.lt h.rk hf))⟩
 ·exact Kept.setCell ⟨hg.os.trans hj.os,hg.tape.trans hj.tape,hg.output.trans hj.output,hP,λk K aC=>iP k K λe=>aC (.inr (.inr (.inr e)))⟩ (.inl rfl) _
 ·rcases K with e|e|e|e
  ·exact .inl (.inl e)
  ·exact .inl (.inr (.inl e))
  ·exact .inl (.inr (.inr (.inl e)))
  ·rcases EB k e with e|e
   ·exact .inl (.inr (.inr (.inr e)))
   ·exact .inr e
theorem i'.rel {q af N:Nat} {s t:Int} {cB cy:ac} (h:i' aU w q af N M aD s t cB cy bo found meet aT da aI cE) (dU:M<=1000000) {n:Int} (aK:0<=v/\v<N) (a9:-9223372036854775808<=d/\d<=9223372036854775807) (aC:-9223372036854775808<=n/\n<=9223372036854775807):
 ∃v1 s1 ay aJ v2 fX ba bi,(xa 313 (.map (A aT.lm)) (r c v)).run aa w= .ok (b8 #[v1,sK s1]) ay/\(xb 313 (.map (A aT.lm)) (sK s1) (r c d)).run aa ay= .ok () aJ/\
  (xa 155 (.map (A aT.ab)) (r c v)).run aa aJ= .ok (b8 #[v2,sK fX]) ba/\(xb 155 (.map (A aT.ab)) (sK fX) (r c n)).run aa ba= .ok () bi/\
  i' aU bi q af N (M+1) aD s t cB cy bo found meet aT da ⟨aI.a7,aI.L,gb aI.bc v d,gb aI.dL v n,aI.C⟩ cE/\kZ (nE q bo aT da aI cE) (nE q bo aT da ⟨aI.a7,aI.L,gb aI.bc v d,gb aI.dL v n,aI.C⟩ cE) w bi:=by
 obtain⟨v1,s1,ay,aJ,v2,fX,ba,bi,r1,r2,eC,mv,hy,K⟩:=e5.label h.iN dU aK a9 aC;have e6:Kept (n0 aT aI) w bi:=K.mono λk e=>by
  rcases e with e|e
  ·exact .inr (.inr (.inl e))
  ·exact .inr (.inr (.inr (.inl e)))
 exact⟨v1,s1,ay,aJ,v2,fX,ba,bi,r1,r2,eC,mv,h.C2 (dn:=⟨aI.a7,aI.L,gb aI.bc v d,gb aI.dL v n,aI.C⟩) hy G e6 (λk K=> .inl K),kZ.mono e6 (λk K=> .inr (.inl K)) λk K=> .inl K⟩
theorem i'.nF {q af N:Nat} {s t:Int} {cB cy:ac} (h:i' aU w q af N M aD s t cB cy bo found meet aT da aI cE) {H:bw->Prop} (aP:rD aI.a7 w aT.aP aT.hm N H D):
 ∃dn:f5,i' aU D q af N M aD s t cB cy bo found meet aT da dn cE/\dn.bc=aI.bc/\dn.dL=aI.dL/\dn.C=aI.C/\(∀x,x∈dn.L↔H x)/\kZ (nE q bo aT da aI cE) (nE q bo aT da dn cE) w D:=by
 obtain⟨c',hy,hL,K⟩:=e5.uR h.iN aP;have e6:Kept (n0 aT aI) w D:=K.mono λk e=> .inl e;have hF:∀k,n0 aT ⟨t_ aI.a7 w D,c',aI.bc,aI.dL,aI.C⟩ k->n0 aT aI k\/w.heap.size<=k:=λk K=>by
  rcases K with e|e
  ·rcases e with e|e
   ·exact .inl (.inl e)
   ·exact .inr e.1
  ·exact .inl (.inr e)
 refine⟨⟨t_ aI.a7 w D,c',aI.bc,aI.dL,aI.C⟩,h.C2 hy (bY _) e6 hF,rfl,rfl,rfl,hL,kZ.mono e6 (λk K=> .inr (.inl K)) λk K=>?_⟩;rcases K with e|e|e|e
 ·exact .inl (.inl e)
 ·rcases hF k e with e|e
  ·exact .inl (.inr (.inl e))
  ·exact .inr e
 ·exact .inl (.inr (.inr (.inl e)))
 ·exact .inl (.inr (.inr (.inr e)))
theorem i'.axt {q af N:Nat} {s t:Int} {cB cy:ac} (h:i' aU w q af N M aD s t cB cy bo found meet aT da aI cE) (iy i_:Int):i' aU ((w.setCell (B q 7) (r c iy)).setCell (B q 10) (r c i_)) q af N M aD s t cB cy bo iy i_ aT da aI cE/\kZ (nE q bo aT da aI cE) (nE q bo aT da aI cE) w ((w.setCell (B q 7) (r c iy)).setCell (B q 10) (r c i_)):=
 ⟨h.axs iy i_,((Kept.refl _ _).setCell (p:=B q 7) (.inl rfl) _).setCell (p:=B q 10) (.inl rfl) _,λ_ h=> .inl h⟩
def PK (aU:Bool) (w:O) (q af N M aD:Nat) (s t:Int) (cB cy bo:ac) (found meet:Int) (aT da:hC) (aI cE:f5) (v:Nat) (d aS key:Int) (D:O):Prop:=
 ∃dn iy i_,i' aU D q af N (M+1) aD s t cB cy bo iy i_ aT da dn cE/\dn.bc=gb aI.bc v d/\dn.dL=gb aI.dL v aS/\dn.C=aI.C/\(∀x,x∈dn.L↔x=((v:Int),key)\/(x∈aI.L/\x.1≠(v:Int)))/\acT cE.bc v d found meet iy i_/\kZ (nE q bo aT da aI cE) (nE q bo aT da dn cE) w D
def Lc (w:O) (q:Nat) (v p:Int):Prop:=aE aa 217 #[J q 0,r c v] w λe D=>e=au (b8 #[r c p,aA (iX p)])/\D=w
theorem agb {q af N:Nat} {s t:Int} {cB cy:ac} (h:i' aU w q af N M aD s t cB cy bo found meet aT da aI cE) {v:Nat} (aK:v<N) {p:Int} (lB:Lc w q v p) (aS d:Int) (hold:iX p=ao\/(iX p=ad/\((v:Int)∈aI.C\/((v:Int)∉aI.C/\∃e,aI.bc v=A e/\e<=d)))):
 aE aa 135 #[J q 0,J aT.cD 0,r c v,r c aS,r c d] w λe D=>e=au (b8 #[])/\D=w:=by
 have rq:0<=(v:Int)/\(v:Int)<N:=⟨G,G⟩;have zt:=e5.look h.iN rq;have Fr:=e5.Oc h.iN rq;have gl:=aR (e5.aH h.iN) 5;have lM:=aR (e5.aH h.iN) 7;unfold Lc at lB;have m1:=I lB;obtain⟨cD,q7⟩:=al aT.cD;obtain⟨lm,v9⟩:=al aT.lm;obtain⟨bX,lq⟩:=al aT.bX;rw[<-q7] at gl lM⊢;rw[<-v9] at gl zt;rw[<-lq] at lM Fr;clear q7 v9 lq;rcases hold with aQ|⟨aQ,bJ|⟨bJ,e,he,hle⟩⟩
 ·rw[aQ] at m1;go_in;go_wp2_with fail;refine eO m1.o ?_;go_wp2_with fail;refine gh (mQ rfl _ _ _) rfl ?_;exact⟨rfl,rfl⟩
 ·rw[aQ] at m1;rw[if_pos bJ] at Fr;go_in;go_wp2_with fail;refine eO m1.o ?_;go_wp2_with fail;refine gh (mQ rfl _ _ _) rfl ?_;exact⟨rfl,rfl⟩
 ·rw[aQ] at m1;rw[if_neg bJ] at Fr;rw[he] at zt;simp only[sM,XZ] at zt;go_in;go_wp2_with fail;refine eO m1.o ?_;go_wp2_with fail;refine gh (mQ rfl _ _ _) rfl ?_;exact⟨rfl,rfl⟩
theorem agc {q af N:Nat} {s t:Int} {cB cy:ac} (h:i' aU w q af N M aD s t cB cy bo found meet aT da aI cE) (dU:M<=100000) (nY:aT.dO=if aU then 1 else 0) (xw:aT.iK=uo aU) {v:Nat} (aK:v<N) {p:Int} (lB:Lc w q v p) (Wb:iX p=ad) {aS:Int} (S3:-1<=aS/\aS<=1000000) (a9:0<=d/\d<=144115188075855872)
 (bJ:(v:Int)∉aI.C) (hL:∀e,aI.bc v=A e->d<e/\((v:Int),2*e+uo aU*p)∈aI.L) (b1:aI.bc v=T->∀k,((v:Int),k)∉aI.L) (agd:∀e,cE.bc v=A e->0<=e/\e<=144115188075855872):
 aE aa 135 #[J q 0,J aT.cD 0,r c v,r c aS,r c d] w λe D=>e=au (b8 #[])/\PK aU w q af N M aD s t cB cy bo found meet aT da aI cE v d aS (2*d+uo aU*p) D:=by
 have rq:0<=(v:Int)/\(v:Int)<N:=⟨G,G⟩;have zt:=e5.look h.iN rq;have Fr:=e5.Oc h.iN rq;rw[if_neg bJ] at Fr;have gl:=aR (e5.aH h.iN) 5;have lM:=aR (e5.aH h.iN) 7;unfold Lc at lB;rw[Wb] at lB;have m1:=I lB;obtain⟨iK,Wc⟩:=al aT.iK;obtain⟨dO,PL⟩:=al aT.dO;obtain⟨zu,Ht⟩:∃z:Nat,(z:Int)=1-dO/\z<2:=⟨if aU then 0 else 1,by rw[PL,nY];cases aU<;>simp⟩;obtain⟨key,pP⟩:=al (2*d+uo aU*p);obtain⟨d2,ke⟩:=al (2*d);obtain⟨v8,PM⟩:=al (uo aU*p);have axu:=T0.1 Wb;have axv:-72057594037927936<v8/\v8<72057594037927936:=by rw[PM,Hk];split<;>omega
 have bA:IntKind.i64.wrap (2*d)=d2:=by rw[ke];exact o7 _ G
 have cK:IntKind.i64.wrap (iK*p)=v8:=by rw[Wc,xw,<-PM];exact o7 _ G
 have cg:IntKind.i64.wrap (d2+v8)=key:=by rw[pP,<-ke,<-PM];exact o7 _ G
 have d6:IntKind.i64.wrap (1-dO)=(zu:Int):=by rw[Ht.1];exact o7 _ G
 have u4:=ew zu;have rp:(zu:Int)<2:=G;have u9:aM (∀u,ae w u->∃v1 s1 ay aJ v2 fX ba bi,(xa 313 (.map (A aT.lm)) (r c v)).run aa u= .ok (b8 #[v1,r c s1]) ay/\(xb 313 (.map (A aT.lm)) (r c s1) (r c d)).run aa ay= .ok () aJ/\
  (xa 155 (.map (A aT.ab)) (r c v)).run aa aJ= .ok (b8 #[v2,r c fX]) ba/\(xb 155 (.map (A aT.ab)) (r c fX) (r c aS)).run aa ba= .ok () bi/\
  i' aU bi q af N (M+1) aD s t cB cy bo found meet aT da ⟨aI.a7,aI.L,gb aI.bc v d,gb aI.dL v aS,aI.C⟩ cE/\kZ (nE q bo aT da aI cE) (nE q bo aT da ⟨aI.a7,aI.L,gb aI.bc v d,gb aI.dL v aS,aI.C⟩ cE) w bi):=λu Z=>by
  obtain⟨v1,s1,ay,aJ,v2,fX,ba,bi,r1,r2,eC,mv,kQ,rO⟩:=(h.below Z).rel (d:=d) (n:=aS) G rq G G;exact⟨v1,s1,ay,aJ,v2,fX,ba,bi,r1,r2,eC,mv,kQ,(kZ.bg _ Z).trans rO⟩
 have PN:aM (∀bi,i' aU bi q af N (M+1) aD s t cB cy bo found meet aT da ⟨aI.a7,aI.L,gb aI.bc v d,gb aI.dL v aS,aI.C⟩ cE->(∀e,aI.bc v=A e->aE aa 218 #[J aT.aP 0,r c v,r c key] bi λe D=>e=au (r c 0)/\rD aI.a7 bi aT.aP aT.hm N (λx=>x=((v:Int),key)\/(x∈aI.L/\x.1≠(v:Int))) D)/\
  (aI.bc v=T->aE aa 165 #[J aT.aP 0,r c v,r c key] bi λe D=>e=au (r c 0)/\rD aI.a7 bi aT.aP aT.hm N (λx=>x=((v:Int),key)\/(x∈aI.L/\x.1≠(v:Int))) D)):=λbi bl=>by
  refine⟨λe he=>?_,λaC=>?_⟩
  ·obtain⟨q1,q2⟩:=hL e he;exact SM (e5.heap bl.iN) q2 (by rw[pP];omega)
  ·refine(NE (e5.heap bl.iN) key (b1 aC) rq).mono ?_;rintro e D ⟨rfl,c',p1,p2,e8,i6⟩;refine⟨rfl,c',p1,λx=>?_,e8,i6⟩;rw[p2];constructor
   ·rintro(h|h)
    ·exact .inl h
    ·exact .inr ⟨h,λe=>b1 aC x.2 (by rw[<-e];exact h)⟩
   ·rintro(h|h)
    ·exact .inl h
    ·exact .inr h.1
 have bC:aM (∀u,ae w u->u.cell? (B aT.cD 5)=A (.map (A aT.lm))/\u.cell? (B aT.cD 6)=A (.map (A aT.ab))):=λu Z=>⟨(e5.aH (h.below Z).iN).cell 5,(e5.aH (h.below Z).iN).cell 6⟩;have uB:aM (∀bi bD,i' aU bi q af N (M+1) aD s t cB cy bo found meet aT da ⟨aI.a7,aI.L,gb aI.bc v d,gb aI.dL v aS,aI.C⟩ cE->kZ (nE q bo aT da aI cE) (nE q bo aT da ⟨aI.a7,aI.L,gb aI.bc v d,gb aI.dL v aS,aI.C⟩ cE) w bi->rD aI.a7 bi aT.aP aT.hm N (λx=>x=((v:Int),key)\/(x∈aI.L/\x.1≠(v:Int))) bD->
  (∀u,ae bD u->u.cell? (B aT.cD 1)=A (r c dO)/\u.cell? (B q (5+zu))=A (J da.cD 0)/\u.cell? (B da.cD 5)=A (.map (A da.lm))/\(l' 313 (.map (A da.lm)) (r c v) ad).run aa u= .ok (b8 #[r c ((cE.bc v).getD 0),aA (cE.bc v).isSome]) u/\u.cell? (B q 7)=A (r c found))/\
  (cE.bc v=T->∀u,ae bD u->PK aU w q af N M aD s t cB cy bo found meet aT da aI cE v d aS key u)/\(∀e,cE.bc v=A e->¬d+e<found->∀u,ae bD u->PK aU w q af N M aD s t cB cy bo found meet aT da aI cE v d aS key u)/\
  ∀e,cE.bc v=A e->d+e<found->∀u,ae bD u->(∃z,u.cell? (B q 7)=A z)/\u.frozen? (B q 7)=ao/\(∃z,u.cell? (B q 10)=A z)/\u.frozen? (B q 10)=ao/\PK aU w q af N M aD s t cB cy bo found meet aT da aI cE v d aS key ((u.setCell (B q 7) (r c (d+e))).setCell (B q 10) (r c v))):=λbi bD bl pM aP=>by
  obtain⟨dn,k1,k2,k3,k4,k5,k6⟩:=bl.nF aP;have J_:=pM.trans k6;refine⟨λu Z=>⟨?_,?_,(e5.aH (k1.below Z).rk).cell 5,e5.look (k1.below Z).rk rq,(k1.below Z).aH.cell 7⟩,λaC u Z=>⟨dn,found,meet,k1.below Z,k2,k3,k4,k5,.inl ⟨aC,rfl,rfl⟩,J_.trans (kZ.bg _ Z)⟩,λe he a0 u Z=>⟨dn,found,meet,k1.below Z,k2,k3,k4,k5,.inr ⟨e,he,.inl ⟨G,rfl,rfl⟩⟩,J_.trans (kZ.bg _ Z)⟩,λe he a0 u Z=>?_⟩
  ·rw[PL];exact(e5.aH (k1.below Z).iN).cell 1
  ·have uc:=k1.below Z;have br:=Ht.1;rw[PL,nY] at br;cases aU
   ·obtain rfl:zu=1:=by simp at br;omega
    exact uc.aH.cell 6
   ·obtain rfl:zu=0:=by simp at br;omega
    exact uc.aH.cell 5
  ·have uc:=k1.below Z;obtain⟨f6,eF⟩:=uc.axt (d+e) v;exact⟨⟨_,uc.aH.cell 7⟩,uc.aH.free 7 (.inr (cQ _)),⟨_,uc.aH.cell 10⟩,uc.aH.free 10 (.inr (cQ _)),dn,d+e,(v:Nat),f6,k2,k3,k4,k5,.inr ⟨e,he,.inr ⟨a0,rfl,rfl⟩⟩,(J_.trans (kZ.bg _ Z)).trans eF⟩
 have age:=I agd;have agf:∀bi,i' aU bi q af N (M+1) aD s t cB cy bo found meet aT da ⟨aI.a7,aI.L,gb aI.bc v d,gb aI.dL v aS,aI.C⟩ cE->bi.cell? (B aT.cD 2)=A (r c iK)/\bi.cell? (B aT.cD 0)=A (J aT.aP 0):=λbi bl=>⟨by rw[Wc];exact(e5.aH bl.iN).cell 2,(e5.aH bl.iN).cell 0⟩;have vO:=I agf;rw[<-pP];have axw:aM (∀e,aI.bc v=A e->d<e):=λe he=>(hL e he).1;clear agf hL b1 h lB bJ agd nY xw Ht pP ke PM axv axu Wc PL S3 rq aK dU Wb;obtain⟨cD,q7⟩:=al aT.cD;obtain⟨lm,v9⟩:=al aT.lm;obtain⟨ab,rH⟩:=al aT.ab;obtain⟨bX,lq⟩:=al aT.bX;obtain⟨axx,Ld⟩:=al aT.aP;obtain⟨C3,agh⟩:∃z,z=da.cD:=⟨_,rfl⟩;obtain⟨C4,agi⟩:∃z,z=da.lm:=⟨_,rfl⟩;rw[<-q7] at gl lM vO uB bC⊢;rw[<-v9] at gl zt u9 bC;rw[<-rH] at u9 bC;rw[<-lq] at lM Fr;rw[<-Ld] at vO PN uB;rw[<-agh,<-agi] at uB;clear q7 v9 rH lq Ld agh agi;cases tl:aI.bc v with
 |some Wd=>
  rw[tl] at zt;simp only[sM,XZ] at zt;have hle:¬Wd<=d:=bI (axw.o Wd tl);have We:=I tl;clear tl;go_in;go_wp2_with fail;refine eO m1.o ?_;go_wp2_with fail;clear zt Fr gl lM m1;refine jQ (λD=>D.cell? (B cD 5)=A (.map (A lm))/\D.cell? (B cD 6)=A (.map (A ab))) 12 rfl ?_;change ej _ _ _ _ _ _ _ 18 _ _ w.drew;obtain⟨et,dm⟩:=al w.drew;have aL:=I (show ae w et by rw[dm];exact(bx _ _).drew);rw[<-dm];clear dm;have ax:=bC.o _ aL.o;repeat first|refine fS ?_|refine ea ?_
  clear ax;obtain⟨v1,s1,a1,a2,v2,fX,dX,jc,br,a4,en,od,cf⟩:=u9.o et aL.o;have cW:=I cf;clear cf u9 bC aL;refine kr 12 (b8 #[v1,r c s1]) a1 ?_;repeat refine ea ?_
  refine jG 14 a2 ?_;refine kr 15 (b8 #[v2,r c fX]) dX ?_;repeat refine ea ?_
  refine jG 17 jc ?_;refine fc ?_;clear br a4 en od;obtain⟨bb,bR⟩:=vO.o jc cW.o.1;have PO:=I ((PN.o jc cW.o.1).1 Wd We.o);clear PN;go_wp2_with fail;refine dl PO.o λbD aP=>?_;obtain⟨qn,aO⟩:=uB.o jc bD cW.o.1 cW.o.2 aP;have cj:=I qn;have hz:=I aO;have d':=I (bx bD.heap.size bD);clear aO aP bb bR PO vO cW uB bA cK cg qn;cases sf:cE.bc v with
  |none=>
   rw[sf] at cj;simp only[aiU,aiV] at cj;go_wp2_with fail;refine jj (S:=λD=>D.cell? (B cD 1)=A (r c dO)/\D.cell? (B q (5+zu))=A (J C3 0)/\D.cell? (B C3 5)=A (.map (A C4))/\(l' 313 (.map (A C4)) (r c v) ad).run aa D= .ok (b8 #[r c 0,aA ao]) D/\D.cell? (B q 7)=A (r c found)) rfl ?_;have ax:=cj.o bD.drew (d'.o.drew);change gV _ _ _ _ _ 20 _ _ bD.drew;have bf:=I (d'.o.drew);repeat refine fA ?_
   refine i4 ?_;have cH:=I (hz.o.1 sf _ bf.o);clear hz sf ax cj;go_wp2_with fail;go_end0;exact⟨rfl,cH.o⟩
  |some e=>
   rw[sf] at cj;simp only[sM,XZ] at cj;have axy:=age.o e sf;obtain⟨le,hle⟩:=al (d+e);have gm:IntKind.i64.wrap (d+e)=le:=by rw[hle];exact o7 _ G
   go_wp2_with fail;refine jj (S:=λD=>D.cell? (B cD 1)=A (r c dO)/\D.cell? (B q (5+zu))=A (J C3 0)/\D.cell? (B C3 5)=A (.map (A C4))/\(l' 313 (.map (A C4)) (r c v) ad).run aa D= .ok (b8 #[r c e,aA ad]) D/\D.cell? (B q 7)=A (r c found)) rfl ?_;have ax:=cj.o bD.drew (d'.o.drew);change gV _ _ _ _ _ 20 _ _ bD.drew;have bf:=I (d'.o.drew);repeat refine fA ?_
   refine i4 ?_;obtain⟨cG,fq⟩:=al bD.drew;rw[<-fq] at bf ax⊢;clear fq;obtain⟨_,_,_,_,k5⟩:=ax;by_cases a0:le<found
   ·have cH:=I (hz.o.2.2 e sf G);rw[<-hle] at cH;have cH:=I (λu Z=>cH.o u (bf.o.next' Z));have bC:aM (∀u,ae cG u->True):=λ_ _=>trivial;obtain⟨_,xe,⟨Nt,rz⟩,Be,GG⟩:=cH.o cG (bx _ _);have Wf:=I GG;clear hle;go_wp2_with fail;go_end0;exact⟨rfl,Wf.o⟩
   ·have cH:=I (hz.o.2.1 e sf G _ bf.o);clear hle;go_wp2_with fail;go_end0;exact⟨rfl,cH.o⟩
 |none=>
  rw[tl] at zt;simp only[aiU,aiV] at zt;have We:=I tl;go_in;go_wp2_with fail;refine eO m1.o ?_;go_wp2_with fail;refine jQ (λD=>D.cell? (B cD 5)=A (.map (A lm))/\D.cell? (B cD 6)=A (.map (A ab))) 12 rfl ?_;change ej _ _ _ _ _ _ _ 18 _ _ w.drew;obtain⟨et,dm⟩:=al w.drew;have aL:=I (show ae w et by rw[dm];exact(bx _ _).drew);rw[<-dm];clear dm;have ax:=bC.o _ aL.o;repeat first|refine fS ?_|refine ea ?_
  obtain⟨v1,s1,a1,a2,v2,fX,dX,jc,br,a4,en,od,cf⟩:=u9.o et aL.o;have cW:=I cf;refine kr 12 (b8 #[v1,r c s1]) a1 ?_;repeat refine ea ?_
  refine jG 14 a2 ?_;refine kr 15 (b8 #[v2,r c fX]) dX ?_;repeat refine ea ?_
  refine jG 17 jc ?_;refine fc ?_;obtain⟨bb,bR⟩:=vO.o jc cW.o.1;have PO:=I ((PN.o jc cW.o.1).2 We.o);go_wp2_with fail;refine dl PO.o λbD aP=>?_;obtain⟨qn,aO⟩:=uB.o jc bD cW.o.1 cW.o.2 aP;have cj:=I qn;have hz:=I aO;have d':=I (bx bD.heap.size bD);clear bA cK cg;cases sf:cE.bc v with
  |none=>
   rw[sf] at cj;simp only[aiU,aiV] at cj;go_wp2_with fail;refine jj (S:=λD=>D.cell? (B cD 1)=A (r c dO)/\D.cell? (B q (5+zu))=A (J C3 0)/\D.cell? (B C3 5)=A (.map (A C4))/\(l' 313 (.map (A C4)) (r c v) ad).run aa D= .ok (b8 #[r c 0,aA ao]) D/\D.cell? (B q 7)=A (r c found)) rfl ?_;have ax:=cj.o bD.drew (d'.o.drew);change gV _ _ _ _ _ 20 _ _ bD.drew;have bf:=I (d'.o.drew);repeat refine fA ?_
   refine i4 ?_;have cH:=I (hz.o.1 sf _ bf.o);go_wp2_with fail;go_end0;exact⟨rfl,cH.o⟩
  |some e=>
   rw[sf] at cj;simp only[sM,XZ] at cj;have axy:=age.o e sf;obtain⟨le,hle⟩:=al (d+e);have gm:IntKind.i64.wrap (d+e)=le:=by rw[hle];exact o7 _ G
   go_wp2_with fail;refine jj (S:=λD=>D.cell? (B cD 1)=A (r c dO)/\D.cell? (B q (5+zu))=A (J C3 0)/\D.cell? (B C3 5)=A (.map (A C4))/\(l' 313 (.map (A C4)) (r c v) ad).run aa D= .ok (b8 #[r c e,aA ad]) D/\D.cell? (B q 7)=A (r c found)) rfl ?_;have ax:=cj.o bD.drew (d'.o.drew);change gV _ _ _ _ _ 20 _ _ bD.drew;have bf:=I (d'.o.drew);repeat refine fA ?_
   refine i4 ?_;obtain⟨cG,fq⟩:=al bD.drew;rw[<-fq] at bf ax⊢;clear fq;obtain⟨_,_,_,_,k5⟩:=ax;by_cases a0:le<found
   ·have cH:=I (hz.o.2.2 e sf G);rw[<-hle] at cH;have cH:=I (λu Z=>cH.o u (bf.o.next' Z));have bC:aM (∀u,ae cG u->True):=λ_ _=>trivial;obtain⟨_,xe,⟨Nt,rz⟩,Be,GG⟩:=cH.o cG (bx _ _);have Wf:=I GG;clear hle;go_wp2_with fail;go_end0;exact⟨rfl,Wf.o⟩
   ·have cH:=I (hz.o.2.1 e sf G _ bf.o);clear hle;go_wp2_with fail;go_end0;exact⟨rfl,cH.o⟩
structure kJ where
 bH:O
 am:Nat
 af:Nat
 g:Raw
 N:Nat
 s:Int
 t:Int
 aG:List Bool
 pi:List Int
 cB:ac
 cy:ac
 q:Nat
structure kJ.e2 (P:kJ):Prop where
 dR:jz P.g P.N
 kS:eq P.bH P.af P.g
 Ol:xV P.bH P.cB P.aG
 Om:cR P.bH P.cy P.pi
 agj:P.aG=[]
 J7:P.pi.length=0\/P.pi.length=P.N
 low:P.bH.heap.size<=P.am
 y5:0<=P.s/\P.s<P.N
 EE:0<=P.t/\P.t<P.N
 t7:∀a∈fa P.g.arcs (jY P.g P.aG P.pi),ev P.pi a.1<=2*a.2.2+ev P.pi a.2.1
structure l9 (P:kJ) (aU:Bool) (aT da:hC) (w:O) (M aD:Nat) (bo:ac) (found meet:Int) (aI cE:f5):Prop where
 y:i' aU w P.q P.af P.N M aD P.s P.t P.cB P.cy bo found meet aT da aI cE
 below:bQ P.am P.bH w
 le:P.am<=w.heap.size
 J8:∀k,nE P.q bo aT da aI cE k->P.am<=k
theorem l9.flip {P:kJ} (h:l9 P aU aT da w M aD bo found meet aI cE):l9 P (!aU) da aT w M aD bo found meet cE aI:=
 ⟨h.y.flip,h.below,h.le,λk K=>h.J8 k K.flip⟩
theorem l9.next {P:kJ} (h:l9 P aU aT da w M aD bo found meet aI cE) {ki iW:Nat} {gH:ac} {iy i_:Int} {dn kh:f5}
 (az:i' aU D P.q P.af P.N ki iW P.s P.t P.cB P.cy gH iy i_ aT da dn kh) (hg:kZ (nE P.q bo aT da aI cE) (nE P.q gH aT da dn kh) w D):l9 P aU aT da D ki iW gH iy i_ dn kh:=by
 obtain⟨h1,h2⟩:=hg.below h.below h.le h.J8;exact⟨az,h1,cM h.le hg.1.size,h2⟩
theorem l9.more {P:kJ} (h:l9 P aU aT da w M aD bo found meet aI cE) (hb:ae w D):l9 P aU aT da D M aD bo found meet aI cE:=h.next (h.y.below hb) (kZ.bg _ hb)
theorem l9.kS {P:kJ} (dj:P.e2) (h:l9 P aU aT da w M aD bo found meet aI cE):eq w P.af P.g:=dj.kS.a_ (bu.bg (h.below.mono dj.low))
theorem l9.pi {P:kJ} (dj:P.e2) (h:l9 P aU aT da w M aD bo found meet aI cE) {v:Nat} (aK:v<P.N):Lc w P.q v (ev P.pi v):=by
 have aP:=dj.Om.a_ (bu.bg (h.below.mono dj.low));have gR:=aR h.y.aH 4;obtain⟨cV,cF,e,_⟩:=id aP;rw[e] at gR aP;have:=dj.dR.jo;have aw:=dj.J7;exact apl gR aP G G
structure C5 (af:Nat) (aU:Bool) (aT:hC):Prop where
 dO:aT.dO=if aU then 1 else 0
 iK:aT.iK=uo aU
 h6:aT.h6= .func (.func (if aU then 93 else 95)) #[J af 0] #[]
 eL:aT.eL= .func (.func (if aU then 134 else 133)) #[] #[]
theorem axz {P:kJ} (dj:P.e2) (aU:Bool) (v:Nat) (u:O) (aC:eq u P.af P.g):aE aa (if aU then 93 else 95) #[J P.af 0,r c v] u λe D=>∃ca,e=au ca/\D.ownsRow u.heap.size 3 1 ca (lj (rP aU) P.g v).length ((lj (rP aU) P.g v).flatMap ec)/\ae u D:=by
 have ha:=dj.dR.po;cases aU
 ·exact SW P.af P.g v u aC (JP G)
 ·exact SX P.af P.g v u aC (JP G)
theorem axA (aU:Bool):∀args w,(gM (if aU then 93 else 95) args).run aa w= .ok (.enter (if aU then 93 else 95) args) w:=by
 cases aU
 ·exact fg func95 bq rfl
 ·exact fg func93 bq rfl
theorem agk (aU:Bool) (a:bd) (u:O):aE aa (if aU then 134 else 133) #[aZ #[r c a.1,r c a.2.1,r c a.2.2]] u λe D=>e=au (r c (kV aU a))/\ae u D:=by
 cases aU
 ·exact apm a u
 ·exact apn a u
theorem agl (aU:Bool):∀args w,(gM (if aU then 134 else 133) args).run aa w= .ok (.enter (if aU then 134 else 133) args) w:=by
 cases aU
 ·exact fg func133 bq rfl
 ·exact fg func134 bq rfl
def oE (P:kJ) (aU:Bool) (aT da:hC) (cE:f5) (W:O) (o3:Nat->Prop) (C:List Int) (v d:Int) (aj:List Int) (M aD k:Nat) (w:O):Prop:=
 ∃ki iW gH iy i_ dn S,l9 P aU aT da w ki iW gH iy i_ dn cE/\dn.C=C++[v]/\AE P.g P.aG P.pi P.s P.t P.N aU v d S ⟨dn.a7,dn.L,dn.bc,dn.dL,C⟩/\oy P.g P.aG P.pi P.s P.t aU dn cE iy i_/\(0<=iy/\iy<=72057594037927936)/\(∀j,j<k->∀n:Nat,aj[j]? =A (n:Int)->jY P.g P.aG P.pi n=ad->∀h2:n<(ji P.g aU).length,(ji P.g aU)[n]∈S)/\ki<=M/\iW<=aD/\kZ o3 (nE P.q gH aT da dn cE) W w
theorem oE.more {P:kJ} {C:List Int} (h:oE P aU aT da cE W o3 C v d aj M aD k w) (hb:ae w D):oE P aU aT da cE W o3 C v d aj M aD k D:=by
 obtain⟨ki,iW,gH,iy,i_,dn,S,h1,h2,ap,bl,cL,eI,gu,h9,iJ⟩:=h;exact⟨ki,iW,gH,iy,i_,dn,S,h1.more hb,h2,ap,bl,cL,eI,gu,h9,iJ.trans (kZ.bg _ hb)⟩
theorem oE.grow {P:kJ} {C:List Int} {M2 fz:Nat} (h:oE P aU aT da cE W o3 C v d aj M aD k w) (dU:M<=M2) (is:aD<=fz):oE P aU aT da cE W o3 C v d aj M2 fz k w:=by
 obtain⟨ki,iW,gH,iy,i_,dn,S,h1,h2,ap,bl,cL,eI,gu,h9,iJ⟩:=h;exact⟨ki,iW,gH,iy,i_,dn,S,h1,h2,ap,bl,cL,eI,G,G,iJ⟩
theorem oE.event {P:kJ} {C:List Int} (h:oE P aU aT da cE W o3 C v d aj M aD k w) (is:aD<=1000000):
 ∃aN eu dw,(∀u,ae w u->u.cell? (B P.q 9)=A (E aN eu dw)/\u.cell? (B aT.cD 1)=A (r c aT.dO))/\∀c0 cI dB hX,(∀x∈[c0,cI,dB,hX],v7 x=ad)->∀u ka,ae w u->V u ka #[c0,cI,dB,hX] 310 (0,0)->
  ∃a n R D,(qN #[46,46] 46 #[E aN eu dw,E (A (B ka 0)) 1 1]).run aa u= .ok (E a n R) D/\(∃z,D.cell? (B P.q 9)=A z)/\D.frozen? (B P.q 9)=ao/\oE P aU aT da cE W o3 C v d aj M (aD+1) k (D.setCell (B P.q 9) (E a n R)):=by
 obtain⟨ki,iW,gH,iy,i_,dn,S,h1,h2,ap,bl,cL,eI,gu,h9,iJ⟩:=h;obtain⟨aN,eu,dw,rfl⟩:=h1.y.slice;refine⟨aN,eu,dw,λu Z=>⟨(h1.more Z).y.aH.cell 9,(e5.aH (h1.more Z).y.iN).cell 1⟩,λc0 cI dB hX ak u ka Z cd=>?_⟩;obtain⟨a,n,R,D,r1,r2,eC,mv,kQ⟩:=h1.y.push G c0 cI dB hX ak Z cd;exact⟨a,n,R,D,r1,r2,eC,ki,iW+1,_,iy,i_,dn,S,h1.next mv kQ,h2,ap,bl,cL,eI,gu,G,iJ.trans kQ⟩
theorem axB {P:kJ} (dj:P.e2) (aU:Bool) (aC:n<P.g.arcs.length):0<=kV aU P.g.arcs[n]/\kV aU P.g.arcs[n]<P.N:=by
 have lN:=dj.dR.ok.aS _ (gB aC);rw[dj.dR.nodes];cases aU
 ·exact lN.2.1
 ·exact lN.1
theorem oE.reach {P:kJ} (dj:P.e2) (dQ:C5 P.af aU aT) (Fs:rQ P.g P.aG P.pi P.s P.t P.N (!aU) cE) {C:List Int} {v:Nat} (a9:0<=d/\d<72057594037927936) (dU:M<=100000) (h:oE P aU aT da cE W o3 C (v:Int) d aj M aD k w) (aC:aj[k]? =A (n:Int)) (qB:n<P.g.arcs.length) (aK:rP aU P.g.arcs[n]=(v:Int)) (hf:ox P.aG n=ad):
 aE aa 135 #[J P.q 0,J aT.cD 0,r c (kV aU P.g.arcs[n]),r c n,r c (d+P.g.arcs[n].2.2)] w λe D=>e=au (b8 #[])/\oE P aU aT da cE W o3 C (v:Int) d aj (M+1) aD (k+1) D:=by
 obtain⟨ki,iW,gH,iy,i_,dn,S,h1,h2,ap,bl,cL,eI,gu,h9,iJ⟩:=h;have HP:=axB dj aU qB;obtain⟨y,az⟩:∃y:Nat,kV aU P.g.arcs[n]=(y:Int):=⟨(kV aU P.g.arcs[n]).toNat,G⟩;have pY:y<P.N:=G;have lB:=h1.pi dj pY;have acI:=dj.dR.po;have oK:∀jh:List bd,(∀a∈S,a∈jh)->(∀h2:n<(ji P.g aU).length,jY P.g P.aG P.pi n=ad->(ji P.g aU)[n]∈jh)->∀j,j<k+1->∀iC:Nat,aj[j]? =A (iC:Int)->jY P.g P.aG P.pi iC=ad->∀h2:iC<(ji P.g aU).length,(ji P.g aU)[iC]∈jh:=λjh fP me j av iC rM aQ h2=>by
  by_cases e:j=k
  ·subst e;rw[aC] at rM;have:iC=n:=bI (eT rM);subst this;exact me h2 aQ
  ·exact fP _ (eI j G iC rM aQ h2)
 rcases ap.aS dj.dR.ok dj.dR.nodes a9 qB aK hf with⟨K,jh,q1,q2,bm⟩|⟨q1,q2,bm,cZ,ek,jg⟩
 ·rw[az] at K⊢;refine(agb h1.y pY lB _ _ ?_).mono ?_
  ·simp only at K;rw[h2];cases aQ:iX (ev P.pi y) with
   |false=>exact .inl rfl
   |true=>
    refine .inr ⟨rfl,?_⟩;rw[aQ] at K;by_cases hm:(y:Int)∈C++[(v:Int)]
    ·exact .inl hm
    ·rcases K with K|K|⟨e,he,hle⟩
     ·cases K
     ·exact absurd K hm
     ·exact .inr ⟨hm,e,he,hle⟩
  ·rintro e D ⟨rfl,fx⟩;subst D;exact⟨rfl,ki,iW,gH,iy,i_,dn,jh,h1,h2,bm,bl,cL,oK jh q1 q2,G,h9,iJ⟩
 ·rw[az] at q1 q2 bm ek jg⊢;simp only at q2 bm;have Wg:=ap.o.holds;simp only at Wg;refine(agc h1.y G dQ.dO dQ.iK pY lB q1 (aS:=(n:Int)) G cZ (by rw[h2];exact q2) (λe he=>⟨bm e he,?_⟩) (λnH k K=>?_) (λe he=>(Fs.hS _ e he).1)).mono ?_
  ·have:=Wg.key he q2;exact this
  ·obtain⟨e,he,_⟩:=Wg.label K;rw[nH] at he;cases he
  ·rintro e D ⟨rfl,kh,Le,Lf,r1,r2,eC,mv,kQ,rO,vE⟩;obtain⟨jh,s1,fX,oM⟩:=jg ⟨kh.a7,kh.L,kh.bc,kh.dL,C⟩ r2 eC rfl kQ;refine⟨rfl,ki+1,iW,gH,Le,Lf,kh,jh,h1.next r1 vE,mv.trans h2,oM,bl.set Fs ek r2 rO,?_,oK jh s1 fX,G,h9,iJ.trans vE⟩;rcases rO with⟨_,br,_⟩|⟨e,he,⟨_,br,_⟩|⟨a0,br,_⟩⟩
   ·rw[br];exact cL
   ·rw[br];exact cL
   ·have:=(Fs.hS _ e he).1;rw[br];omega
def axC (P:kJ) (aU:Bool) (aT da:hC) (aI cE:f5) (M aD:Nat) (D:O):Prop:=
 ∃dn ki iW gH iy i_ v,l9 P aU aT da D ki iW gH iy i_ dn cE/\rQ P.g P.aG P.pi P.s P.t P.N aU dn/\oy P.g P.aG P.pi P.s P.t aU dn cE iy i_/\(0<=iy/\iy<=72057594037927936)/\dn.C=aI.C++[v]/\v∉aI.C/\(0<=v/\v<P.N)/\ki<=M+85/\iW<=aD+85
theorem axD {P:kJ} (dj:P.e2) (aU:Bool) {v:Nat} (aK:v<P.N):(lj (rP aU) P.g v).length<=84:=by
 rw[Jy (rP aU) (by rw[<-dj.dR.nodes];omega)];have:=BK (rP aU) P.g.arcs v P.g.arcs.length;have:=dj.dR.po;omega
theorem axE {P:kJ} (dj:P.e2) (h:l9 P aU aT da w M aD bo found meet aI cE) (hU:rQ P.g P.aG P.pi P.s P.t P.N aU aI) (hm:oy P.g P.aG P.pi P.s P.t aU aI cE found meet) (b9:∃x,x∈aI.L) (dU:M<=10000):
 ∃(v:Nat) (key d:Int),v<P.N/\(v:Int)∉aI.C/\(0<=d/\d<72057594037927936)/\aE aa 166 #[J aT.aP 0] w λe ay=>e=au (b8 #[r c v,r c key,aA ad])/\(ay.cell? (B aT.cD 7)=A (.map (A aT.bX))/\(l' 155 (.map (A aT.bX)) (r c v) ao).run aa ay= .ok (r c 0) ay)/\
  ∃aJ,(Instr.mapUpdate 155 (.map (A aT.bX)) (r c v) (r c 1)).run aa ay= .ok () aJ/\∃ez:f5,l9 P aU aT da aJ (M+1) aD bo found meet ez cE/\ez.C=aI.C++[(v:Int)]/\ez.bc v=A d/\AE P.g P.aG P.pi P.s P.t P.N aU v d [] ⟨ez.a7,ez.L,ez.bc,ez.dL,aI.C⟩/\oy P.g P.aG P.pi P.s P.t aU ez cE found meet:=by
 obtain⟨x,ak⟩:=b9;obtain⟨id,key,p1,p2,e8⟩:=SN (e5.heap h.y.iN) ak;have aB:0<=kk P.s P.t aU/\kk P.s P.t aU<P.N:=by
  cases aU
  ·exact dj.y5
  ·exact dj.EE
 obtain⟨d,q1,q2,bm,cZ,ek,jg⟩:=hU.pop (hi:=aI.a7) (c':=aI.L.filter λx=>decide (x.1≠id)) dj.dR.ok dj.dR.nodes aB dj.t7 p1 p2 (λx=>by rw[Dj,decide_eq_true_iff]);obtain⟨v,rfl⟩:∃v:Nat,id=(v:Int):=⟨id.toNat,G⟩;have oU:v<P.N:=G;refine⟨v,key,d,oU,q1,bm,e8.mono ?_⟩;rintro e ay ⟨rfl,aP⟩;obtain⟨ez,r1,r2,eC,mv,kQ,rO⟩:=h.y.nF aP;have cO:=h.next r1 rO;have iD:=e5.Oc r1.iN (v:=(v:Int)) ⟨G,G⟩;rw[mv,if_neg q1] at iD;obtain⟨aJ,s1,fX,oM⟩:=e5.close r1.iN G (v:=(v:Int)) ⟨G,G⟩;have e6:Kept (n0 aT ez) ay aJ:=oM.mono λk e=> .inr (.inr (.inr (.inr e)));have h7:=r1.C2 (dn:=⟨ez.a7,ez.L,ez.bc,ez.dL,ez.C++[(v:Int)]⟩) fX G e6 (λk K=> .inl K);refine⟨rfl,⟨(e5.aH r1.iN).cell 7,iD⟩,aJ,s1,⟨ez.a7,ez.L,ez.bc,ez.dL,ez.C++[(v:Int)]⟩,cO.next h7 (kZ.mono e6 (λk K=> .inr (.inl K)) λk K=> .inl K),by rw[mv],by rw[<-cZ,<-r2],?_,hm.same r2 rfl⟩;obtain⟨dS,lC,mD,xf,FY,FZ,Iu⟩:=hU.pop (hi:=ez.a7) (c':=ez.L) dj.dR.ok dj.dR.nodes aB dj.t7 p1 p2 kQ;have:dS=d:=by rw[cZ] at FY;exact(eT FY).symm
 subst this;rw[show(⟨ez.a7,ez.L,ez.bc,ez.dL,aI.C⟩:f5)=⟨ez.a7,ez.L,aI.bc,aI.dL,aI.C⟩ by rw[r2,eC]];exact Iu
theorem agm {P:kJ} (dj:P.e2) (dQ:C5 P.af aU aT) (h:l9 P aU aT da w M aD bo found meet aI cE) (hU:rQ P.g P.aG P.pi P.s P.t P.N aU aI) (axF:rQ P.g P.aG P.pi P.s P.t P.N (!aU) cE) (hm:oy P.g P.aG P.pi P.s P.t aU aI cE found meet) (hf:0<=found/\found<=72057594037927936) (b9:∃x,x∈aI.L) (dU:M<=10000) (is:aD<=10000):
 aE aa 137 #[J P.q 0,J aT.cD 0] w λe D=>e=au (b8 #[])/\axC P aU aT da aI cE M aD D:=by
 obtain⟨v,key,d,oU,N3,a9,JO⟩:=axE dj h hU hm b9 dU;have Wh:=I JO;obtain⟨q,aO⟩:=al P.q;obtain⟨cD,q7⟩:=al aT.cD;obtain⟨lm,v9⟩:=al aT.lm;obtain⟨bX,lq⟩:=al aT.bX;obtain⟨axx,Ld⟩:=al aT.aP;obtain⟨dO,nY⟩:=al aT.dO;obtain⟨h6,PP⟩:=al (if aU then 93 else 95);obtain⟨eL,PQ⟩:=al (if aU then 134 else 133);have aFE:∀args w,(gM h6 args).run aa w= .ok (.enter h6 args) w:=by rw[PP];exact axA aU
 have apA:∀args w,(gM eL args).run aa w= .ok (.enter eL args) w:=by rw[PQ];exact agl aU
 have bR:=aR (e5.aH h.y.iN) 0;obtain⟨aj,cf⟩:=al (lj (rP aU) P.g v);have NI:=axD dj aU oU;have agn:=I λu aC=>axz dj aU v u aC;rw[<-PP,<-cf] at agn;rw[<-cf] at NI;have wH:(v:Int)<P.g.nodes:=by rw[<-dj.dR.nodes];omega
 have ago:=I λa u=>agk aU a u;rw[<-PQ] at ago;have e_:=I dj;have cw:=I dQ;have axG:=I axF;have cW:=I cf;have dq:=I hf;have jd:=I a9;have axH:=I N3;have A3:=I (cv aO (cv q7 (cv v9 (cv lq (cv nY (cv PP PQ))))));rw[<-Ld] at Wh bR;rw[<-q7] at bR;rw[<-q7,<-lq] at Wh;rw[<-aO,<-q7];clear cf aO q7 v9 lq Ld nY PP PQ;go_in;go_wp2_with fail;refine Wh.o.mono ?_;rintro e ay ⟨rfl,⟨lM,iD⟩,aJ,BT,ez,hb,vM,vF,mb,lv⟩;have aoH:IntKind.i64.wrap (0+1)=1:=rfl;have h0:oE P aU aT da cE aJ (nE P.q bo aT da ez cE) aI.C (v:Int) d aj (M+1) (aD+0) 0 aJ:=⟨M+1,aD,bo,found,meet,ez,[],hb,vM,mb,lv,dq.o,λj av=>by omega,bY _,bY _,kZ.refl _ _⟩;have Lg:aM (∀k M2 fz o3 W u,oE P aU aT da cE W o3 aI.C (v:Int) d aj M2 fz k u->u.cell? (B cD 1)=A (r c dO)/\u.cell? (B cD 3)=A (.func (.func h6) #[J P.af 0] #[])/\u.cell? (B cD 4)=A (.func (.func eL) #[] #[])/\u.cell? (B cD 5)=A (.map (A lm))/\(l' 313 (.map (A lm)) (r c v) ao).run aa u= .ok (r c d) u/\u.cell? (B q 0)=A (J P.af 0)/\u.cell? (B q 3)=A P.cB):=λk M2 fz o3 W u Z=>by
  obtain⟨ki,iW,gH,iy,i_,dn,S,h1,h2,ap,_⟩:=Z;obtain⟨q1,q2,bm,cZ,ek,jg,s9⟩:=A3.o;have aw:=e5.apg h1.y.iN (v:=(v:Int)) ⟨G,G⟩;have fZ:=ap.o.scan.own;simp only at fZ;rw[fZ] at aw;simp only[sM] at aw;rw[q1,q2,bm,ek,jg,s9,<-cw.o.h6,<-cw.o.eL];exact⟨(e5.aH h1.y.iN).cell 1,(e5.aH h1.y.iN).cell 3,(e5.aH h1.y.iN).cell 4,(e5.aH h1.y.iN).cell 5,aw,h1.y.aH.cell 0,h1.y.aH.cell 3⟩
 obtain⟨aN,eu,dw,Wi,ES⟩:=oE.event h0 G;have bC:aM (∀u,ae aJ u->u.cell? (B q 9)=A (E aN eu dw)/\u.cell? (B cD 1)=A (r c dO)/\u.cell? (B cD 5)=A (.map (A lm))/\(l' 313 (.map (A lm)) (r c v) ao).run aa u= .ok (r c d) u):=λu Z=>by
  obtain⟨k1,k2,k3,k4,k5,k6,k7⟩:=Lg.o _ _ _ _ _ _ (oE.more h0 Z);obtain⟨n4,_⟩:=Wi u Z;rw[<-A3.o.1] at n4;exact⟨n4,k1,k4,k5⟩
 rw[<-A3.o.1] at ES;have PR:=I ES;go_wp2_with fail;refine jQ (λD=>D.cell? (B q 9)=A (E aN eu dw)/\D.cell? (B cD 1)=A (r c dO)/\D.cell? (B cD 5)=A (.map (A lm))/\(l' 313 (.map (A lm)) (r c v) ao).run aa D= .ok (r c d) D) 19 rfl ?_;change ej _ _ _ _ _ _ _ 24 _ _ aJ.drew;obtain⟨et,dm⟩:=al aJ.drew;have aL:=I (show ae aJ et by rw[dm];exact(bx _ _).drew);rw[<-dm];clear dm;refine ct 0 (J q 0) (λ_=>bC.o _ aL.o) ?_;refine ct 1 (J q 0) (λ_=>bC.o _ aL.o) ?_;refine ct 2 (J q 0) (λ_=>bC.o _ aL.o) ?_;refine ct 3 (J q 7) (λ_=>bC.o _ aL.o) ?_;refine ct 4 (J q 9) (λ_=>bC.o _ aL.o) ?_;refine lH 5 (E aN eu dw) (bC.o _ aL.o) ?_;refine ct 6 (J cD 0) (λ_=>bC.o _ aL.o) ?_;refine ct 7 (J cD 0) (λ_=>bC.o _ aL.o) ?_;refine ct 8 (J cD 1) (λ_=>bC.o _ aL.o) ?_;refine r8 9 (r c dO) [17,18,19] (cb:=bC.o _ aL.o) (h:=?_);simp only[bN,bM,bO];refine ct 10 (r c v) (λ_=>bC.o _ aL.o) ?_;refine ct 11 (J cD 0) (λ_=>bC.o _ aL.o) ?_;refine ct 12 (J cD 0) (λ_=>bC.o _ aL.o) ?_;refine ct 13 (J cD 5) (λ_=>bC.o _ aL.o) ?_;refine r8 14 (.map (A lm)) [16,17,18,19] (cb:=bC.o _ aL.o) (h:=?_);simp only[bN,bM,bO];refine ct 15 (r c v) (λ_=>bC.o _ aL.o) ?_;refine r8 16 (r c d) [17,18,19] (cb:=bC.o _ aL.o) (h:=?_);simp only[bN,bM,bO];refine ct 17 (aZ #[r c 0,r c dO,r c v,r c d]) (λ_=>bC.o _ aL.o) ?_;refine Bl ?_;intro H fH be b3;have dd:=I fH;have eW:=I b3;clear fH b3;suffices axI:∀(u:O) (ka:Nat),aM (ae aJ u)->aM (V u ka #[r c 0,r c dO,r c v,r c d] 310)->H 5 #[ad,ad,ad,ad,ad,ad,ad,ad,ad,ad,ad,ad,ad,ad,ad,ad,ad,ad,ad,ao,ao,ao,ao,ao] {tmps:=(be.setIfInBounds 45 (E (A (B ka 0)) 1 1)),defers:=[]} u from by
  have ta:∀(u:O),aM (ae aJ u)->H 6 #[ad,ad,ad,ad,ad,ad,ad,ad,ad,ad,ad,ad,ad,ad,ad,ad,ad,ad,ao,ao,ao,ao,ao,ao] {tmps:=be,defers:=[]} u:=by
   intro u aL;rw[dd.o,eW.o];refine dJ 18 ?_;have hb:ae u (u.alloc (an #[r c 0,r c dO,r c v,r c d] 310)):=fb;have hf:V (u.alloc (an #[r c 0,r c dO,r c v,r c d] 310)) u.heap.size #[r c 0,r c dO,r c v,r c d] 310:=V.new _ _ _ _;refine gD (E (A (B u.heap.size 0)) 1 1) (u.alloc (an #[r c 0,r c dO,r c v,r c d] 310)) ?_;have kI:=aL;have aL:aM (ae aJ (u.alloc (an #[r c 0,r c dO,r c v,r c d] 310))):=I (kI.o.trans (hb.mono kI.o.size));refine⟨λ_=>bC.o _ aL.o,?_⟩;simp only[bN,bM,bO];have q:=axI _ u.heap.size aL (I hf);rw[dd.o,eW.o] at q;simp only[bN,bM,bO] at q⊢;exact q
  exact ta et aL
 intro u ka aL axJ;rw[dd.o,eW.o];simp only[bN,bM,bO];obtain⟨a,m,R,D,hE,⟨xO,F0⟩,xe,x2⟩:=PR.o _ _ _ _ (λx ak=>by simp only[gg,iS,or_false] at ak;rcases ak with rfl|rfl|rfl|rfl<;>rfl) u ka aL.o axJ.o;obtain⟨ba,fq⟩:=al (D.setCell (B q 9) (E a m R));rw[<-fq] at x2;refine dJ 19 ?_;refine tP (ca:=E a m R) (D:=D) rfl rfl rfl (by rfl) (.tmp 32) (.tmp 45) _ _ rfl hE ?_;refine⟨gj,?_⟩;simp only[bN,bM,bO];refine ct 20 (J q 0) gj ?_;refine ct 21 (J q 7) gj ?_;refine ct 22 (J q 9) gj ?_;refine dJ 23 ?_;refine lG ba ?_ (he:=by rw[fq];go_simp);have kl:=I x2;clear fq;refine⟨gj,?_⟩;refine fc ?_;have hQ:=kl;obtain⟨_,ch,_⟩:=Lg.o _ _ _ _ _ _ hQ.o;obtain⟨axK,acN,TY,axL,axM,kh,acO,g',iE,jx,pM,y6,Pe,Ft,Ei,Cf⟩:=hQ.o;have axN:=I (agn.o ba (g'.kS e_.o));obtain⟨o3,Wj⟩:=al (nE P.q TY aT da kh cE);have vS:aM (∀k,o3 k->k<ba.heap.size):=λk K=>g'.y.lt (by rw[Wj] at K;exact K);have axO:aM (∀bi,ae ba bi->oE P aU aT da cE bi o3 aI.C (v:Int) d aj (M+1+0) (aD+1+0) 0 bi):=λbi c_=>⟨axK,acN,TY,axL,axM,kh,acO,g'.more c_,iE,jx,pM,y6,λj av=>by omega,G,G,by rw[Wj];exact kZ.refl _ _⟩;clear Wj;go_wp2_with fail;refine axN.o.mono ?_;rintro e bi ⟨ca,rfl,es,c_⟩;obtain⟨wx,xg,rfl,aaX,ua,_⟩:=jv rfl es;unfold ff at ua;have i9:=I (axO.o bi c_);have vL:=I es;go_wp2_with fail;go_loopw [57] (λu wr=>∃k:Nat,k<=aj.length/\u=r c k/\aM (oE P aU aT da cE bi o3 aI.C (v:Int) d aj (M+1+k) (aD+1+k) k wr)) (λu _=>aj.length-(intOf u).toNat)
 ·exact⟨0,cQ _,rfl,i9⟩
 ·obtain⟨k,K,rfl,CR⟩:=hrel;by_cases a0:k<aj.length
  ·have ie:(k:Int)<aj.length:=G;have jl:=ew k;obtain⟨n,aC,qB,Ou⟩:=(B_ (rP aU) wH).1 (by rw[<-cW.o];exact gB a0);have Ej:aj[k]? =A (n:Int):=by rw[eA a0,aC]
   obtain⟨M2,fz,AC,Le,Lf,dn,Ov,g',iE,jx,pM,y6,Pe,Ft,Ei,Cf⟩:=id CR.o;have Js:=Cf.row vS.o vL.o;obtain⟨b,off,rfl,d0⟩:=(jv rfl Js).at k a0;rw[aC] at d0;obtain⟨k1,k2,k3,k4,k5,k6,k7⟩:=Lg.o _ _ _ _ _ _ CR.o;obtain⟨eG,ix,axP,_⟩:=e_.o.Ol;rw[axP,e_.o.agj] at k7;have Wk:ox P.aG n=ad:=by unfold ox;rw[e_.o.agj];rfl
   obtain⟨aN,eu,dw,Wi,ES⟩:=CR.o.event G;have bC:aM (∀u,ae wr u->u.cell? (B q 9)=A (E aN eu dw)/\u.cell? (B cD 1)=A (r c dO)):=λu Z=>by
    obtain⟨n4,rn⟩:=Wi u Z;rw[<-A3.o.1] at n4;rw[<-A3.o.2.1,<-A3.o.2.2.2.2.1] at rn;exact⟨n4,rn⟩
   rw[<-A3.o.1] at ES;have PR:=I ES;have dd:=ig Ej Ou Wk;go_wp2_with fail;refine jQ (λD=>D.cell? (B q 9)=A (E aN eu dw)/\D.cell? (B cD 1)=A (r c dO)) 13 rfl ?_;change ej _ _ _ _ _ _ _ 18 _ _ wr.drew;obtain⟨et,dm⟩:=al wr.drew;have aL:=I (show ae wr et by rw[dm];exact(bx _ _).drew);rw[<-dm];clear dm;refine ct 0 (J q 0) (λ_=>bC.o _ aL.o) ?_;refine ct 1 (J q 0) (λ_=>bC.o _ aL.o) ?_;refine ct 2 (J q 0) (λ_=>bC.o _ aL.o) ?_;refine ct 3 (J q 7) (λ_=>bC.o _ aL.o) ?_;refine ct 4 (J q 9) (λ_=>bC.o _ aL.o) ?_;refine lH 5 (E aN eu dw) (bC.o _ aL.o) ?_;refine ct 6 (J cD 0) (λ_=>bC.o _ aL.o) ?_;refine ct 7 (J cD 0) (λ_=>bC.o _ aL.o) ?_;refine ct 8 (J cD 1) (λ_=>bC.o _ aL.o) ?_;refine r8 9 (r c dO) [11,12,13] (cb:=bC.o _ aL.o) (h:=?_);simp only[bN,bM,bO];refine ct 10 (r c n) (λ_=>bC.o _ aL.o) ?_;refine ct 11 (aZ #[r c 1,r c dO,r c n,r c 0]) (λ_=>bC.o _ aL.o) ?_;refine Bl ?_;intro H fH be b3;have dd:=I fH;have eW:=I b3;clear fH b3;suffices axQ:∀(u:O) (ka:Nat),aM (ae wr u)->aM (V u ka #[r c 1,r c dO,r c n,r c 0] 310)->H 5 #[ad,ad,ad,ad,ad,ad,ad,ad,ad,ad,ad,ad,ad,ao,ao,ao,ao,ao] {tmps:=(be.setIfInBounds 91 (E (A (B ka 0)) 1 1)),defers:=[]} u from by
    have ta:∀(u:O),aM (ae wr u)->H 6 #[ad,ad,ad,ad,ad,ad,ad,ad,ad,ad,ad,ad,ao,ao,ao,ao,ao,ao] {tmps:=be,defers:=[]} u:=by
     intro u aL;rw[dd.o,eW.o];refine dJ 12 ?_;have hb:ae u (u.alloc (an #[r c 1,r c dO,r c n,r c 0] 310)):=fb;have hf:V (u.alloc (an #[r c 1,r c dO,r c n,r c 0] 310)) u.heap.size #[r c 1,r c dO,r c n,r c 0] 310:=V.new _ _ _ _;refine gD (E (A (B u.heap.size 0)) 1 1) (u.alloc (an #[r c 1,r c dO,r c n,r c 0] 310)) ?_;have kI:=aL;have aL:aM (ae wr (u.alloc (an #[r c 1,r c dO,r c n,r c 0] 310))):=I (kI.o.trans (hb.mono kI.o.size));refine⟨λ_=>bC.o _ aL.o,?_⟩;simp only[bN,bM,bO];have q:=axQ _ u.heap.size aL (I hf);rw[dd.o,eW.o] at q;simp only[bN,bM,bO] at q⊢;exact q
    exact ta et aL
   intro u ka aL agp;rw[dd.o,eW.o];simp only[bN,bM,bO];clear dd eW;obtain⟨a,m,R,D,hE,⟨xO,F0⟩,xe,x2⟩:=PR.o _ _ _ _ (λx ak=>by simp only[gg,iS,or_false] at ak;rcases ak with rfl|rfl|rfl|rfl<;>rfl) u ka aL.o agp.o;obtain⟨wN,fq⟩:=al (D.setCell (B q 9) (E a m R));rw[<-fq] at x2;refine dJ 13 ?_;refine tP (ca:=E a m R) (D:=D) rfl rfl rfl (by rfl) (.tmp 84) (.tmp 91) _ _ rfl hE ?_;refine⟨gj,?_⟩;simp only[bN,bM,bO];refine ct 14 (J q 0) gj ?_;refine ct 15 (J q 7) gj ?_;refine ct 16 (J q 9) gj ?_;refine dJ 17 ?_;refine lG wN ?_ (he:=by rw[fq];go_simp);have kl:=I x2;clear x2 fq F0 xe hE aL agp PR bC;refine⟨gj,?_⟩;refine fc ?_;have Wl:=I (show oE P aU aT da cE bi o3 aI.C (v:Int) d aj (M+1+k) (aD+1+k+1) k wN from kl.o);obtain⟨_,_,_,_,_,k6,_⟩:=Lg.o _ _ _ _ _ _ Wl.o;have agq:=I (show eq wN P.af P.g from by
    obtain⟨M2,fz,AC,Le,Lf,dn,Ov,g',_⟩:=Wl.o;exact g'.kS e_.o)
   have dM:=D_ P.af P.g n wN agq.o;rw[if_pos ⟨G,G⟩,decide_eq_true (show 0<=(n:Int)/\(n:Int)<P.g.arcs.length from⟨G,G⟩),ko] at dM;change aE _ _ _ _ (λe D=>e=au (b8 #[vl (gw P.g n),aA ad])/\ae wN D) at dM;rw[oY qB] at dM;obtain⟨gG,pj⟩:=al (P.g.arcs[n].1);obtain⟨a1,oi⟩:=al (P.g.arcs[n].2.1);obtain⟨nB,tn⟩:=al (P.g.arcs[n].2.2);obtain⟨y,az⟩:=al (kV aU P.g.arcs[n]);have agr:∀u,aE aa eL #[aZ #[r c gG,r c a1,r c nB]] u λe D=>e=au (r c y)/\ae u D:=λu=>by
    rw[pj,oi,tn,az];exact ago.o _ u
   have axR:=I agr;unfold vl at dM;rw[<-pj,<-oi,<-tn] at dM;have dM:=I dM;have so:0<=nB/\nB<=2147483648:=by
    have:=(e_.o.dR.ok.aS _ (gB qB)).2.2;rw[tn];omega
   have apO:IntKind.i64.wrap (d+nB)=d+nB:=o7 _ (bI jd.o);have rN:=db tn az;have r':=ew n;clear pj oi tn az agr agq kl;go_wp2_with fail;refine dl dM.o λbD cT=>?_;obtain⟨ci,g5⟩:=al bD.heap.size;obtain⟨j',AD⟩:=al (bD.alloc (an #[r c gG,r c a1,r c nB] 57));have mK:ae wN j':=cT.next' (by rw[AD];exact fb);have te:=eK AD g5;have vC:=I (oE.more Wl.o mK);have bC:aM (∀u,ae j' u->u.cell? (B cD 4)=A (.func (.func eL) #[] #[])/\u.cell? (B cD 5)=A (.map (A lm))/\(l' 313 (.map (A lm)) (r c v) ao).run aa u= .ok (r c d) u/\u.cell? (B ci 0)=A (r c gG)/\u.cell? (B ci 1)=A (r c a1)/\u.cell? (B ci 2)=A (r c nB)):=λu Z=>by
    obtain⟨k1,k2,k3,k4,k5,k6,k7⟩:=Lg.o _ _ _ _ _ _ (oE.more vC.o Z);exact⟨k3,k4,k5,(te.aq Z).cell 0,(te.aq Z).cell 1,(te.aq Z).cell 2⟩
   have TZ:aM (∀u,ae j' u->aE aa 135 #[J q 0,J cD 0,r c y,r c n,r c (d+nB)] u λe D=>e=au (b8 #[])/\oE P aU aT da cE bi o3 aI.C (v:Int) d aj (M+1+k+1) (aD+1+k+1) (k+1) D):=λu Z=>by
    have C:=(oE.more vC.o Z).reach e_.o cw.o axG.o jd.o G dd.o.1 qB dd.o.2.1 dd.o.2.2;rw[A3.o.1,A3.o.2.1,rN.o.1,rN.o.2];exact C
   have t3:=I g5;have JA:=I AD;clear g5 AD;go_wp2_with fail;rw[<-JA.o,<-t3.o];refine jQ (λD=>D.cell? (B cD 4)=A (.func (.func eL) #[] #[])/\D.cell? (B cD 5)=A (.map (A lm))/\(l' 313 (.map (A lm)) (r c v) ao).run aa D= .ok (r c d) D/\D.cell? (B ci 0)=A (r c gG)/\D.cell? (B ci 1)=A (r c a1)/\D.cell? (B ci 2)=A (r c nB)) 18 rfl ?_;change ej _ _ _ _ _ _ _ 19 _ _ j'.drew;obtain⟨et,dm⟩:=al j'.drew;have aL:=I (show ae j' et by rw[dm];exact(bx _ _).drew);rw[<-dm];clear dm;refine ct 0 (J q 0) (λ_=>bC.o _ aL.o) ?_;refine ct 1 (J cD 0) (λ_=>bC.o _ aL.o) ?_;refine ct 2 (J cD 0) (λ_=>bC.o _ aL.o) ?_;refine ct 3 (J cD 0) (λ_=>bC.o _ aL.o) ?_;refine ct 4 (J cD 4) (λ_=>bC.o _ aL.o) ?_;refine r8 5 (.func (.func eL) #[] #[]) [7,18] (cb:=bC.o _ aL.o) (h:=?_);simp only[bN,bM,bO];refine r8 6 (aZ #[r c gG,r c a1,r c nB]) [7,18] (cb:=bC.o _ aL.o) (h:=?_);simp only[bN,bM,bO];refine ct 8 (r c n) (λ_=>bC.o _ aL.o) ?_;refine ct 9 (J cD 0) (λ_=>bC.o _ aL.o) ?_;refine ct 10 (J cD 0) (λ_=>bC.o _ aL.o) ?_;refine ct 11 (J cD 5) (λ_=>bC.o _ aL.o) ?_;refine r8 12 (.map (A lm)) [14,17,18] (cb:=bC.o _ aL.o) (h:=?_);simp only[bN,bM,bO];refine ct 13 (r c v) (λ_=>bC.o _ aL.o) ?_;refine r8 14 (r c d) [17,18] (cb:=bC.o _ aL.o) (h:=?_);simp only[bN,bM,bO];refine ct 15 (J ci 2) (λ_=>bC.o _ aL.o) ?_;refine r8 16 (r c nB) [17,18] (cb:=bC.o _ aL.o) (h:=?_);simp only[bN,bM,bO];refine ct 17 (r c (d+nB)) (λ_=>bC.o _ aL.o) ?_;refine Bl ?_;intro H fH be b3;have dd:=I fH;have eW:=I b3;clear fH b3;suffices Tl:∀(u:O),aM (ae j' u)->aM True->H 1 #[ad,ad,ad,ad,ad,ad,ad,ad,ad,ad,ad,ad,ad,ad,ad,ad,ad,ad,ao] {tmps:=(be.setIfInBounds 112 (r c y)),defers:=[]} u from by
    have ta:∀(u:O),aM (ae j' u)->H 2 #[ad,ad,ad,ad,ad,ad,ad,ao,ad,ad,ad,ad,ad,ad,ad,ad,ad,ad,ao] {tmps:=be,defers:=[]} u:=by
     intro u aL;rw[dd.o,eW.o];refine dJ 7 ?_;refine e3 eL #[aZ #[r c gG,r c a1,r c nB]] (axR.o u) ?_;rintro e cz ⟨rfl,hb⟩;refine⟨_,rfl,?_⟩;have hf:True:=trivial;have kI:=aL;have aL:aM (ae j' cz):=I (kI.o.trans (hb.mono kI.o.size));refine⟨λ_=>bC.o _ aL.o,?_⟩;simp only[bN,bM,bO];have q:=Tl _ aL (I hf);rw[dd.o,eW.o] at q;simp only[bN,bM,bO] at q⊢;exact q
    exact ta et aL
   intro u aL G5;rw[dd.o,eW.o];simp only[bN,bM,bO];refine dJ 18 ?_;refine F1 (f:=135) rfl rfl (by rfl) (by go_simp) (TZ.o u aL.o) (λe iv ar=>?_);obtain⟨rfl,ap⟩:=ar;have JI:=I (ap.grow (M2:=M+1+(k+1)) (fz:=aD+1+(k+1)) G G);refine⟨_,rfl,gj,?_⟩;simp only[bN,bM,bO];refine fc ?_;go_wp2_with fail;go_roundw
   ·exact⟨k+1,a0,by go_num,JI⟩
   ·simp[intOf];omega
  ·obtain rfl:k=aj.length:=G;go_wp2_with fail;go_end0;obtain⟨M2,fz,AC,Le,Lf,dn,Ov,g',iE,jx,pM,y6,Pe,Ft,Ei,Cf⟩:=CR.o;refine⟨rfl,dn,M2,fz,AC,Le,Lf,(v:Int),g',?_,pM,y6,iE,axH.o,⟨G,G⟩,G,G⟩;refine jx.end (dn:=dn) (λn aC h2 bK he=>?_) rfl rfl rfl iE;have h1:((n:Nat):Int)∈aj:=by rw[cW.o];exact(B_ (rP aU) wH).2 ⟨n,rfl,aC,he⟩
   obtain⟨j,av,e⟩:=Bd h1;exact Pe j av n (by rw[eA av,e]) bK h2
noncomputable def C6 (w:O) (bX N:Nat):Nat:=by
 classical exact(m8 N).countP λv=>decide ((l' 155 (.map (A bX)) (r c (v:Nat)) ao).run aa w= .ok (r c 0) w)
theorem ags {p q:Nat->Bool}:∀(l:List Nat),(∀v∈l,p v=q v)->l.countP p=l.countP q
 |[],_=>rfl
 |a::l,h=>by
  rw[X0,X0,ags l λv aK=>h v (uK _ aK),h a uL]
theorem agt {p q:Nat->Bool}:∀(l:List Nat),(∀v∈l,p v=ad->q v=ad)->∀x∈l,q x=ad->p x=ao->l.countP p<l.countP q
 |a::l,h,x,ak,h1,h2=>by
  rw[X0,X0];have hle:∀(l:List Nat),(∀v∈l,p v=ad->q v=ad)->l.countP p<=l.countP q:=λl h=>List.countP_mono_left h;rcases gg.1 ak with rfl|ak
  ·rw[h1,h2];have:=hle l λv aK=>h v (uK _ aK);simp;omega
  ·have d4:=agt l (λv aK=>h v (uK _ aK)) x ak h1 h2;have ha:=h a uL;cases aP:p a with
   |true=>rw[ha aP];simp;omega
   |false=>cases q a<;>simp<;>omega
theorem C7 {N:Nat} (h:Hd w N M aT aI):C6 w aT.bX N=(m8 N).countP λ(v:Nat)=>decide ((v:Int)∉aI.C):=by
 unfold C6;refine ags _ λv aK=>?_;have aK:=tI.1 aK;have aw:=e5.Oc h (v:=(v:Int)) ⟨G,G⟩;rw[aw,decide_eq_decide];by_cases hm:(v:Int)∈aI.C
 ·rw[if_pos hm];exact⟨λe=>(by simp at e),λaC=>absurd hm aC⟩
 ·rw[if_neg hm];exact⟨λ_=>hm,λ_=>rfl⟩
theorem agu {N:Nat} {C:List Int} (aK:0<=v/\v<N) (aC:v∉C):(m8 N).countP (λ(u:Nat)=>decide ((u:Int)∉C++[v]))<(m8 N).countP λ(u:Nat)=>decide ((u:Int)∉C):=by
 refine agt _ (λu _ h=>?_) v.toNat (tI.2 G) ?_ ?_
 ·rw[decide_eq_true_iff] at h⊢;exactλhm=>h (fJ.2 (.inl hm))
 ·rw[decide_eq_true_iff,show((v.toNat:Nat):Int)=v by omega];exact aC
 ·rw[decide_eq_false_iff_not,show((v.toNat:Nat):Int)=v by omega];exactλh=>h (fJ.2 (.inr (f2.2 rfl)))
theorem axS {q af N:Nat} {s t:Int} {cB cy:ac} (h:TO w q af N M aD s t cB cy bo found meet ik f7 gT ez) (he:(∀x,x∉gT.L)\/∀x,x∉ez.L):
 aE aa 136 #[J q 0] w λe D=>e=au (a6 T)/\D=w:=by
 obtain⟨a,kC,gX,ha⟩:=Oj h.m2.heap;obtain⟨b,TQ,fC,hb⟩:=Oj h.s1.heap;have gl:=aR h.aH 5;have kf:=aR h.aH 6;have d0:=aR (e5.aH h.m2) 0;have e0:=aR (e5.aH h.s1) 0;have gX:=I gX;have fC:=I fC;obtain⟨p0,Cq⟩:=al ik.cD;obtain⟨p1,q5⟩:=al f7.cD;rw[<-Cq] at gl d0;rw[<-q5] at kf e0;clear h Cq q5;have N2:kC=ao\/(kC=ad/\TQ=ao):=by
  rcases he with he|he
  ·rcases ha with⟨_,⟨v,aK⟩,_⟩|⟨h,_⟩
   ·exact absurd aK (he _)
   ·exact .inl h
  ·rcases hb with⟨_,⟨v,aK⟩,_⟩|⟨h,_⟩
   ·exact absurd aK (he _)
   ·cases kC
    ·exact .inl rfl
    ·exact .inr ⟨rfl,h⟩
 clear ha hb he;rcases N2 with rfl|⟨rfl,rfl⟩
 ·go_in;go_wp2_with fail;refine eO gX.o ?_;go_wp2_with fail;refine eO fC.o ?_;go_wp2_with fail;go_ret;exact⟨rfl,rfl⟩
 ·go_in;go_wp2_with fail;refine eO gX.o ?_;go_wp2_with fail;refine eO fC.o ?_;go_wp2_with fail;go_ret;exact⟨rfl,rfl⟩
structure axT (aI:f5):Prop where
 L:aI.L=[]
 bc:aI.bc=λ_=>T
 dL:aI.dL=λ_=>T
 C:aI.C=[]
def HV (P:kJ) (aU:Bool) (aI:f5):Prop:=aI.C=[]/\((iX (ev P.pi (kk P.s P.t aU))=ad/\aI.bc=gb (λ_=>T) (kk P.s P.t aU) 0/\aI.dL=gb (λ_=>T) (kk P.s P.t aU) (-1)/\∀x,x∈aI.L↔x=(kk P.s P.t aU,2*0+uo aU*ev P.pi (kk P.s P.t aU)))\/
 (iX (ev P.pi (kk P.s P.t aU))=ao/\aI.bc=(λ_=>T)/\∀x,x∉aI.L))
theorem agv {P:kJ} (dj:P.e2) (dQ:C5 P.af aU aT) (h:l9 P aU aT da w M aD bo found meet aI cE) (hV:axT aI) (Fs:cE.bc (kk P.s P.t aU)=T) (dU:M<=1000):
 aE aa 135 #[J P.q 0,J aT.cD 0,r c (kk P.s P.t aU),r c (-1),r c 0] w λe D=>e=au (b8 #[])/\∃dn ki,l9 P aU aT da D ki aD bo found meet dn cE/\HV P aU dn/\ki<=M+1:=by
 have aB:0<=kk P.s P.t aU/\kk P.s P.t aU<P.N:=by
  cases aU
  ·exact dj.y5
  ·exact dj.EE
 obtain⟨i,ag⟩:∃i:Nat,kk P.s P.t aU=(i:Int):=⟨(kk P.s P.t aU).toNat,G⟩;have s7:i<P.N:=G;have lB:=h.pi dj s7;unfold HV;rw[ag] at Fs⊢;cases aQ:iX (ev P.pi (i:Nat)) with
 |false=>
  refine dl (agb h.y s7 lB (-1) 0 (.inl aQ)) λD fx=>?_;subst D;exact⟨rfl,aI,M,h,⟨hV.C,.inr ⟨rfl,hV.bc,λx ak=>by rw[hV.L] at ak;cases ak⟩⟩,G⟩
 |true=>
  refine(agc h.y G dQ.dO dQ.iK s7 lB aQ (aS:=-1) (d:=0) G G (by rw[hV.C];simp) (λe he=>by rw[hV.bc] at he;cases he) (λ_ k K=>by rw[hV.L] at K;cases K) (λe he=>by rw[Fs] at he;cases he)).mono ?_;rintro e D ⟨rfl,dn,iy,i_,r1,r2,eC,mv,kQ,rO,vE⟩;rcases rO with⟨_,br,a4⟩|⟨e,he,_⟩
  ·subst br;subst a4;refine⟨rfl,dn,M+1,h.next r1 vE,⟨by rw[mv,hV.C],.inl ⟨rfl,by rw[r2,hV.bc],by rw[eC,hV.dL],λx=>?_⟩⟩,bY _⟩;rw[kQ,hV.L];constructor
   ·rintro(h|h)
    ·exact h
    ·cases h.1
   ·exactλh=> .inl h
  ·rw[Fs] at he;cases he
structure Lh (P:kJ) (gT ez:f5) (found meet:Int):Prop where
 q0:rQ P.g P.aG P.pi P.s P.t P.N ao gT
 q1:rQ P.g P.aG P.pi P.s P.t P.N ad ez
 m:oy P.g P.aG P.pi P.s P.t ao gT ez found meet
structure HW (P:kJ) (ik f7:hC) (w:O) (gT ez:f5) (M aD:Nat) (bo:ac) (found meet:Int):Prop where
 st:l9 P ao ik f7 w M aD bo found meet gT ez
 hS:0<=found/\found<=72057594037927936
 dR:gT.C.length<=P.N/\ez.C.length<=P.N
 axU:M<=2+85*(gT.C.length+ez.C.length)/\aD<=85*(gT.C.length+ez.C.length)
 axV:Lh P gT ez found meet\/(((∀x,x∉gT.L)\/∀x,x∉ez.L)/\found=72057594037927936/\c1 (fa P.g.arcs (jY P.g P.aG P.pi)) P.s P.t=72057594037927936)
def Wm (P:kJ) (ik f7:hC) (gT ez:f5) (found meet:Int) (x:ac):Prop:=
 (x=a6 T/\c1 (fa P.g.arcs (jY P.g P.aG P.pi)) P.s P.t=found/\(found<72057594037927936->Lh P gT ez found meet))\/
 (x=J ik.cD 0/\Lh P gT ez found meet/\∃y,y∈gT.L)\/(x=J f7.cD 0/\Lh P gT ez found meet/\∃y,y∈ez.L)
theorem HW.next {P:kJ} (dj:P.e2) (h:HW P ik f7 w gT ez M aD bo found meet):
 aE aa 136 #[J P.q 0] w λe D=>∃x,e=au x/\Wm P ik f7 gT ez found meet x/\D=w:=by
 rcases h.axV with cd|⟨he,br,a4⟩
 ·refine(aps h.st.y.af9 h.hS (acS cd.q0.o.holds cd.q0.hS) (acS cd.q1.o.holds cd.q1.hS)).mono ?_;rintro e D ⟨b1,fx⟩;subst D;rcases b1 with⟨rfl,aB⟩|⟨rfl,az⟩|⟨rfl,az⟩
  ·refine⟨_,rfl,.inl ⟨rfl,apV dj.dR.ok (by rw[<-dj.dR.nodes];exact dj.y5) cd.q0 cd.q1 cd.m dj.t7 aB,λ_=>cd⟩,rfl⟩
  ·exact⟨_,rfl,.inr (.inl ⟨rfl,cd,az⟩),rfl⟩
  ·exact⟨_,rfl,.inr (.inr ⟨rfl,cd,az⟩),rfl⟩
 ·refine dl (axS h.st.y.af9 he) λD fx=>?_;subst D;exact⟨_,rfl,.inl ⟨rfl,by rw[br,a4],λaw=>by omega⟩,rfl⟩
theorem axW {P:kJ} (dj:P.e2) (HX:C5 P.af ao ik) (qr:C5 P.af ad f7) (h:HW P ik f7 w gT ez M aD bo found meet) {x:ac} (ak:Wm P ik f7 gT ez found meet x) (b9:x≠a6 T):
 ∃cD,x=J cD 0/\aE aa 137 #[J P.q 0,J cD 0] w λe D=>e=au (b8 #[])/\∃agw agx ki iW gH iy i_,HW P ik f7 D agw agx ki iW gH iy i_/\C6 D ik.bX P.N+C6 D f7.bX P.N<C6 w ik.bX P.N+C6 w f7.bX P.N:=by
 have iH:=dj.dR.jo;have ah:=h.dR;have Kp:=h.axU;rcases ak with⟨e,_⟩|⟨rfl,cd,az⟩|⟨rfl,cd,az⟩
 ·exact absurd e b9
 ·refine⟨_,rfl,(agm dj HX h.st cd.q0 cd.q1 cd.m h.hS az G G).mono ?_⟩;rintro e D ⟨rfl,dn,ki,iW,gH,iy,i_,v,r1,r2,eC,mv,kQ,rO,vE,PS,zj⟩;have aw:=r2.o.dR;have hlen:dn.C.length=gT.C.length+1:=by rw[kQ];simp
  refine⟨rfl,dn,ez,ki,iW,gH,iy,i_,⟨r1,mv,⟨aw,ah.2⟩,⟨G,G⟩,.inl ⟨r2,cd.q1,eC⟩⟩,?_⟩;rw[C7 r1.y.iN,C7 r1.y.rk,C7 h.st.y.iN,C7 h.st.y.rk,kQ];have:=agu vE rO;omega
 ·refine⟨_,rfl,(agm dj qr (aU:=ad) h.st.flip cd.q1 cd.q0 cd.m.flip h.hS az G G).mono ?_⟩;rintro e D ⟨rfl,dn,ki,iW,gH,iy,i_,v,r1,r2,eC,mv,kQ,rO,vE,PS,zj⟩;have aw:=r2.o.dR;have hlen:dn.C.length=ez.C.length+1:=by rw[kQ];simp
  refine⟨rfl,gT,dn,ki,iW,gH,iy,i_,⟨r1.flip,mv,⟨ah.1,aw⟩,⟨G,G⟩,.inl ⟨cd.q0,r2,eC.flip⟩⟩,?_⟩;rw[C7 r1.y.iN,C7 r1.y.rk,C7 h.st.y.iN,C7 h.st.y.rk,kQ];have:=agu vE rO;omega
theorem axX {P:kJ} (dj:P.e2) (hst:P.s≠P.t) (h:l9 P ao ik f7 w M 0 (E T 0 0) 72057594037927936 0 gT ez) (h0:HV P ao gT) (h1:HV P ad ez) (dU:M<=2):HW P ik f7 w gT ez M 0 (E T 0 0) 72057594037927936 0:=by
 refine⟨h,G,by rw[h0.1,h1.1];simp,by rw[h0.1,h1.1];simp;exact dU,?_⟩;obtain⟨bR,h0⟩:=h0;obtain⟨aV,h1⟩:=h1;rcases h0 with⟨sZ,qJ,sW,tm⟩|⟨sZ,_,tm⟩
 ·rcases h1 with⟨ir,mY,cO,e4⟩|⟨ir,_,e4⟩
  ·exact .inl ⟨rQ.begin P.g P.aG P.pi P.s P.t P.N ao dj.y5 sZ tm qJ sW bR,rQ.begin P.g P.aG P.pi P.s P.t P.N ad dj.EE ir e4 mY cO aV,oy.begin hst qJ mY 0⟩
  ·exact .inr ⟨.inr e4,rfl,z_ (acV hst (.inr ir))⟩
 ·exact .inr ⟨.inl tm,rfl,z_ (acV hst (.inl sZ))⟩
structure vT (P:kJ) (aU:Bool) (aT:hC) (dL:Int->Option Int) (meet:Int) (u:O):Prop where
 below:bQ P.am P.bH u
 q:∃cs,V u P.q cs 217 (0,0)/\cs[0]? =A (J P.af 0)/\cs[10]? =A (r c meet)
 s:∃cs fr,V u aT.cD cs 315 fr/\cs[4]? =A (.func (.func (if aU then 134 else 133)) #[] #[])/\cs[6]? =A (.map (A aT.ab))
 cA:∃n,jM 3 u aT.ab n dL
theorem vT.kept {P:kJ} {dL:Int->Option Int} {ed:O} (h:vT P aU aT dL meet u) {S:Nat->Prop} (K:Kept S u ed) (cb:¬S P.q/\¬S aT.cD/\¬S aT.ab) (aw:P.am<=u.heap.size) (dC:∀k,S k->P.am<=k):vT P aU aT dL meet ed:=by
 obtain⟨cs,k1,k2,k3⟩:=h.q;obtain⟨cs2,fr,k4,k5,k6⟩:=h.s;obtain⟨n,m⟩:=h.cA;exact⟨h.below.trans (K.below aw dC),⟨cs,K.aH k1 cb.1,k2,k3⟩,⟨cs2,fr,K.aH k4 cb.2.1,k5,k6⟩,⟨n,m.dy (K.block _ m.lt cb.2.2)⟩⟩
theorem vT.later {P:kJ} {dL:Int->Option Int} {ed:O} (h:vT P aU aT dL meet u) (aw:P.am<=u.heap.size) (hb:ae u ed):vT P aU aT dL meet ed:=
 h.kept (S:=λ_=>False) (Kept.bg hb) ⟨id,id,id⟩ aw λ_ h=>h.elim
theorem vT.axY {P:kJ} {dL:Int->Option Int} (h:vT P aU aT dL meet u) (aO:P.am<=P.q) (x:ac) (aB:aT.cD≠P.q) (hb:aT.ab≠P.q):vT P aU aT dL meet (u.setCell (B P.q 8) x):=by
 obtain⟨cs,k1,k2,k3⟩:=h.q;obtain⟨cs2,fr,k4,k5,k6⟩:=h.s;obtain⟨n,m⟩:=h.cA;refine⟨h.below.setCell (p:=B P.q 8) aO _,⟨_,k1.set 8 x,?_,?_⟩,⟨cs2,fr,(d7 _ _ _ _ aB).trans k4,k5,k6⟩,⟨n,m.dy (d7 _ _ _ _ hb)⟩⟩
 ·rw[v6 G];exact k2
 ·rw[v6 G];exact k3
theorem l9.back {P:kJ} (dQ:C5 P.af aU aT) (h:l9 P aU aT da w M aD bo found meet aI cE):vT P aU aT aI.dL meet w:=by
 obtain⟨n,_,m⟩:=e5.Eu h.y.iN;refine⟨h.below,⟨_,h.y.aH,rfl,rfl⟩,⟨_,_,e5.aH h.y.iN,?_,rfl⟩,n,m⟩;rw[<-dQ.eL];rfl
theorem agy {P:kJ} (dj:P.e2) {dL:Int->Option Int} (h:vT P aU aT dL meet u) (hm:0<=meet/\meet<P.N) {l:List Int} (ah:pq (ji P.g aU) (Hl dL) meet l) (aw:l.length<=P.N):
 aE aa 138 #[J P.q 0,J aT.cD 0] u λe D=>∃cV iY cF,e=au (E cV iY cF)/\D.ownsRow u.heap.size 3 1 (E cV iY cF) l.length (l.flatMap ec)/\ae u D:=by
 have vB:=dj.dR.jo;have bK:=dj.dR.ok;have hnd:=bK.nodes;obtain⟨cs,k1,k2,k3⟩:=h.q;obtain⟨cs2,fr,k4,k5,k6⟩:=h.s;have o8:∀a∈P.g.arcs,(0<=rP aU a/\rP aU a<=16777216)/\(0<=kV aU a/\kV aU a<=16777216)/\rP aU a=a.1+a.2.1-kV aU a:=λa ha=>by
  have lN:=bK.aS a ha;have h1:=lN.1;have h2:=lN.2.1;cases aU
  ·show(0<=a.1/\a.1<=16777216)/\(0<=a.2.1/\a.2.1<=16777216)/\a.1=a.1+a.2.1-a.2.1;omega
  ·show(0<=a.2.1/\a.2.1<=16777216)/\(0<=a.1/\a.1<=16777216)/\a.2.1=a.1+a.2.1-a.1;omega
 refine apG (af:=P.af) (g:=P.g) (fz:=kV aU) (Q:=ji P.g aU) (N:=P.N) (λcc a'=>⟨bK,λa u=>agk aU a u,agl aU,Oy P.g aU,λn aC kA=>?_,λa ha=>(o8 a ha).2.1,λa ha=>?_⟩) (dj.kS.a_ (bu.bg (h.below.mono dj.low))) ⟨cs,_,k1,k2⟩ ⟨cs2,fr,k4,k5,k6⟩ h.cA (by rw[k1.cell];exact k3) G ah G
 ·rw[(Oz kA aC).1];exact(o8 _ (gB kA)).2.2
 ·obtain⟨R,ah,br,_⟩:=acQ ha;rw[br];exact(o8 R ah).1
theorem axZ {ai:Nat} {v:ac} (cf:aj.length=n) (h:w.ownsRow ai 3 1 v n (aj.flatMap ec)) (aC:n<=1000000):aE aa 139 #[v] w λe D=>e=au (b8 #[])/\(∃R':List Int,R'.length=n/\D.ownsRow ai 3 1 v n (R'.flatMap ec))/\Kept (λk=>v.ownBlock=A k) w D:=by
 rcases id h.2 with⟨e,h0⟩|⟨g,R,cur,e,_⟩
 ·subst e;refine dl (reverse_nil w) λD fx=>?_;subst D;exact⟨rfl,⟨aj,cf,h⟩,Kept.refl _ _⟩
 ·subst e;refine(acd ai g n R aC w ⟨aj,cf,h⟩).mono ?_;rintro e D ⟨rfl,h1,h2⟩;exact⟨rfl,h1,h2.mono λk e=>by rw[e];rfl⟩
def Fu (w:O) (p hm N:Nat):Prop:=i8 (λk=>k=p\/k=hm) w p hm N []
theorem Fu.lt {p hm N:Nat} (h:Fu w p hm N):hm<w.heap.size:=i8.lt h (.inr rfl)
theorem Fu.below {p hm N:Nat} (h:Fu w p hm N) (hb:ae w D):Fu D p hm N:=i8.below h hb
def PT (N:Nat):Nat->ac->Nat->Nat->O->Prop:=λi v l h w=>match i with
 |6=>v=r c N
 |7=>∃p hm,v=a6 (A ⟨p,0,T⟩)/\Fu w p hm N/\(l<=p/\p<h)/\l<=hm/\hm<h
 |12=>v= .map (A l)/\jM 2 w l 0 (λ_=>T)/\l<h
 |_=>v= .map (A l)/\jM 3 w l 0 (λ_=>T)/\l<h
theorem ax0 (N i:Nat) (v:ac) (l h:Nat) (w D:O) (ah:PT N i v l h w) (hb:ae w D):PT N i v l h D:=by
 unfold PT at ah⊢;split at ah
 ·exact ah
 ·obtain⟨p,hm,e,h1,h2⟩:=ah;exact⟨p,hm,e,h1.below hb,h2⟩
 ·exact⟨ah.1,ah.2.1.dy (hb.block _ ah.2.1.lt),ah.2.2⟩
 ·exact⟨ah.1,ah.2.1.dy (hb.block _ ah.2.1.lt),ah.2.2⟩
def agz (w:O) (q:Nat) (cs:Array ac) (N:Nat) (j:Nat) (iK:Int) (h6 eL:ac) (D:O):Prop:=
 ∃cD p hm lm ab bX,e5 (λk=>k=p\/k=hm) D cD p hm lm ab bX N (j:Nat) iK h6 eL [] (λ_=>T) (λ_=>T) [] 0/\(∀k,Cm (λk=>k=p\/k=hm) cD lm ab bX k->w.heap.size<=k)/\Kept (λk=>k=q) w D/\V D q (cs.setIfInBounds (5+j) (J cD 0)) 217
theorem agA {q af N:Nat} {g:Raw} {cs:Array ac} (aO:V w q cs 217) (zY:cs[0]? =A (J af 0)) (m9:cs.size=11) (dE:eq w af g) (b1:(N:Int)=g.nodes) (sq:N<=12) (j:Nat) (av:j<2) (v iK:Int) (h6 eL:Nat):
 aE aa 132 #[J q 0,r c j,r c v,r c iK,.func (.func h6) #[J af 0] #[],.func (.func eL) #[] #[]] w λe D=>e=au (b8 #[])/\agz w q cs N j iK (.func (.func h6) #[J af 0] #[]) (.func (.func eL) #[] #[]) D:=by
 have gn:aM (∀u,ae w u->aE aa 27 #[J af 0] u λe D=>e=au (r c N)/\D=u):=λu Z=>by
  rw[b1];exact l3 af g u (dE.a_ (bu.bg Z))
 have bC:aM (∀u,ae w u->u.cell? (B q 0)=A (J af 0)):=λu Z=>by rw[(aO.aq Z).cell];exact zY
 have hz:=db aO m9;have u4:=ew j;have rp:(j:Int)<2:=G;go_in;go_wp2_with fail;refine pF 15 bC.o λdV dz ax=>?_;have jW:=I dz;repeat first|refine fS ?_|refine ea ?_
 refine yI [6,7,12,13,14] (PT N) (eF:=4) (λj v l h w D ah hb _=>ax0 _ _ _ _ _ _ _ ah hb) (λD bU=>bC.o _ (jW.o.next' bU)) ?step ?fin
 case step=>
  intro i ag fj dZ jZ ia t u hp fP hF;simp only[gg,iS,or_false] at ag;have hj:=jW.o.next' hF.below;rcases ag with rfl|rfl|rfl|rfl|rfl
  ·have t17:t[17]? =A (J af 0):=hF.base fP 17;refine e3 27 #[J af 0] (gn.o u hj) ?_;rintro e ed ⟨rfl,rfl⟩;exact⟨_,rfl,_,rfl,bx _ _,rfl⟩
  ·obtain⟨t18,ah,_⟩:=hF.jV hp 6 18;rw[show dZ 6=r c N from ah] at t18;refine e3 162 #[r c N] (adw N G u) ?_;rintro e ed ⟨p,hm,rfl,fH,q5,pS,hb⟩;exact⟨_,rfl,_,rfl,hb,p,hm,rfl,fH,⟨q5,i8.lt fH (.inl rfl)⟩,pS,i8.lt fH (.inr rfl)⟩
  ·exact gD (.map (A u.heap.size)) (u.alloc (.map #[] 0)) ⟨_,rfl,fb,rfl,jM.made _ _,a3⟩ (he:=by simp only[execOp,io,go_sem];first|rfl|simp[Bc,go_sem])
  ·exact gD (.map (A u.heap.size)) (u.alloc (.map #[] 0)) ⟨_,rfl,fb,rfl,jM.made _ _,a3⟩ (he:=by simp only[execOp,io,go_sem];first|rfl|simp[Bc,go_sem])
  ·exact gD (.map (A u.heap.size)) (u.alloc (.map #[] 0)) ⟨_,rfl,fb,rfl,jM.made _ _,a3⟩ (he:=by simp only[execOp,io,go_sem];first|rfl|simp[Bc,go_sem])
 case fin=>
  intro dZ jZ ia u hb dK mR;obtain⟨y9,_⟩:=dK 6 a3;obtain⟨⟨p,hm,wM,fH,q5,pS⟩,Vo,_⟩:=dK 7 a3;obtain⟨⟨AQ,aw⟩,ax1,_⟩:=dK 12 a3;obtain⟨⟨AR,rH⟩,ax2,_⟩:=dK 13 a3;obtain⟨⟨wT,ah⟩,ax3,_⟩:=dK 14 a3;have a1:=mR 12 a3 13 a3 bj;have a2:=mR 12 a3 14 a3 bj;have dX:=mR 13 a3 14 a3 bj;have jc:=mR 7 a3 12 a3 bj;have np:=mR 7 a3 13 a3 bj;have IS:=mR 7 a3 14 a3 bj;rw[show dZ 6=r c N from y9,wM,AQ,AR,wT];obtain⟨lm,v9⟩:=al (jZ 12);obtain⟨ab,mK⟩:=al (jZ 13);obtain⟨bX,lq⟩:=al (jZ 14);rw[<-v9] at aw ax1 a1 a2 jc⊢;rw[<-mK] at rH ax2 a1 dX np⊢;rw[<-lq] at ah ax3 a2 dX IS⊢;have hj:=jW.o.next' hb;have hP:=jW.o.size;have tz:=I (show lm≠ab/\lm≠bX/\ab≠bX/\hm≠lm/\hm≠ab/\hm≠bX from⟨G,G,G,G,G,G⟩);have dM:=I (show ae w u/\(Fu u p hm N/\w.heap.size<=p/\w.heap.size<=hm)/\(jM 2 u lm 0 (λ_=>T)/\w.heap.size<=lm)/\(jM 3 u ab 0 (λ_=>T)/\w.heap.size<=ab)/\(jM 3 u bX 0 (λ_=>T)/\w.heap.size<=bX) from⟨hj,⟨fH,G,G⟩,⟨aw.1,G⟩,⟨rH.1,G⟩,ah.1,G⟩);clear v9 mK lq;refine kr 15 (aZ #[J p 0,r c j,r c iK,.func (.func h6) #[J af 0] #[],.func (.func eL) #[] #[],.map (A lm),.map (A ab),.map (A bX)]) u ?_;obtain⟨cD,q7⟩:=al u.heap.size;obtain⟨aJ,cK⟩:=al (u.alloc (an #[J p 0,r c j,r c iK,.func (.func h6) #[J af 0] #[],.func (.func eL) #[] #[],.map (A lm),.map (A ab),.map (A bX)] 315));refine kr 16 (J cD 0) aJ ?_ (he:=by rw[cK,q7];go_simp);repeat refine ea ?_
  have AO:=dx cK;have ax4:=eK cK q7;have CW:ae w aJ:=dM.o.1.next' AO;have Hx:=hz.o.1.aq CW;have Nz:∃z,aJ.cell? (B q (5+j))=A z:=by
   rw[Hx.cell];exact⟨cs[5+j]'(bI hz.o.2),QC (bI hz.o.2)⟩
  obtain⟨z,Nz⟩:=Nz;have AM:=Hx.free (5+j) (.inr (cQ _));have mc:=I cK;clear cK;obtain⟨ba,cg⟩:=al (aJ.setCell (B q (5+j)) (J cD 0));have vb:=I (show agz w q cs N j iK (.func (.func h6) #[J af 0] #[]) (.func (.func eL) #[] #[]) ba from by
   obtain⟨rS,⟨fH,q5,pS⟩,⟨agB,aw⟩,⟨agC,hb⟩,TB,ah⟩:=dM.o;obtain⟨b2,cm,ii,PG,V5,V6⟩:=tz.o;have arV:q<w.heap.size:=hz.o.1.lt;have hP:=rS.size;have b9:∀k,k≠q->ba.heap[k]? =aJ.heap[k]? :=λk K=>by rw[cg];exact d7 _ _ _ _ K
   have agD:=agB.dy (AO.block _ agB.lt);have agE:=agC.dy (AO.block _ agC.lt);have agF:=TB.dy (AO.block _ TB.lt);have agG:i8 (λk=>k=p\/k=hm) aJ p hm N []:=i8.below fH AO;have aFF:p<u.heap.size:=i8.lt fH (.inl rfl);have Jn:hm<u.heap.size:=fH.lt;have ax5:V ba cD #[J p 0,r c j,r c iK,.func (.func h6) #[J af 0] #[],.func (.func eL) #[] #[],.map (A lm),.map (A ab),.map (A bX)] 315:=(b9 cD G).trans ax4;have me:∀k,Cm (λk=>k=p\/k=hm) cD lm ab bX k->w.heap.size<=k:=λk K=>by
    rcases K with(e|e)|e|e|e|e<;>omega
   have nm:p≠lm/\p≠ab/\p≠bX:=by
    obtain⟨gy,cf,_⟩:=agG;exact⟨agD.ne cf.aH,agE.ne cf.aH,agF.ne cf.aH⟩
   refine⟨cD,p,hm,lm,ab,bX,⟨ax5,agG.dy (by rw[cg];simp) (λk K=>b9 k (by rcases K with e|e<;>omega)),⟨0,bY _,agD.dy (b9 lm G)⟩,⟨0,bY _,agE.dy (b9 ab G)⟩,⟨0,bY _,?_⟩,⟨?_,?_,?_,?_,b2,cm,ii⟩,sq⟩,me,?_,?_⟩
   ·have e:Et []=λ_=>T:=by funext x;unfold Et;rw[if_neg a3]
    rw[e];exact agF.dy (b9 bX G)
   ·rintro(e|e)<;>omega
   ·rintro(e|e)
    ·exact nm.1 e.symm
    ·exact PG e.symm
   ·rintro(e|e)
    ·exact nm.2.1 e.symm
    ·exact V5 e.symm
   ·rintro(e|e)
    ·exact nm.2.2 e.symm
    ·exact V6 e.symm
   ·rw[cg];exact(Kept.bg (S:=λk=>k=q) CW).setCell (p:=B q (5+j)) rfl _
   ·rw[cg];exact Hx.set (5+j) _)
  refine dJ 20 ?_;refine lG ba ?_ (he:=by rw[cg];go_simp);clear cg q7;refine⟨gj,?_⟩;refine fc ?_;go_wp2_with fail;go_end0;exact⟨rfl,vb.o⟩
theorem ax6 {P:kJ} {ba bi bD:O} {vU p0 lu Li Lj Lk uC p1 lv Ll Lm Ln:Nat} {agH agI agJ agK:ac} (aO:P.q<ba.heap.size) (dC:P.am<=P.q) (ck:bQ P.am P.bH ba)
 (CP:e5 (λk=>k=p0\/k=lu) bi vU p0 lu Li Lj Lk P.N ((0:Nat):Int) 1 agH agI [] (λ_=>T) (λ_=>T) [] 0) (Lo:∀k,Cm (λk=>k=p0\/k=lu) vU Li Lj Lk k->ba.heap.size<=k) (k0:Kept (λk=>k=P.q) ba bi)
 (AZ:e5 (λk=>k=p1\/k=lv) bD uC p1 lv Ll Lm Ln P.N ((1:Nat):Int) (-1) agJ agK [] (λ_=>T) (λ_=>T) [] 0) (lX:∀k,Cm (λk=>k=p1\/k=lv) uC Ll Lm Ln k->bi.heap.size<=k) (k1:Kept (λk=>k=P.q) bi bD)
 (DD:V bD P.q #[J P.af 0,r c P.s,r c P.t,P.cB,P.cy,J vU 0,J uC 0,r c 72057594037927936,E T 0 0,E T 0 0,r c 0] 217):
 l9 P ao ⟨vU,p0,lu,Li,Lj,Lk,((0:Nat):Int),1,agH,agI⟩ ⟨uC,p1,lv,Ll,Lm,Ln,((1:Nat):Int),-1,agJ,agK⟩ bD 0 0 (E T 0 0) 72057594037927936 0 ⟨λk=>k=p0\/k=lu,[],λ_=>T,λ_=>T,[]⟩ ⟨λk=>k=p1\/k=lv,[],λ_=>T,λ_=>T,[]⟩:=by
 have aFG:=k0.size;have aFH:=k1.size;have VE:=CP.kept k1 (λk K e=>by have:=Lo k K;omega);refine⟨⟨DD,VE,AZ,λk h0 h1=>?_,⟨[],oG _ _ _ _⟩,⟨λh=>?_,λh=>?_⟩,λk K=>by cases K⟩,?_,G,λk K=>?_⟩
 ·have:=lX k h1;have:=e5.lt CP h0;omega
 ·have:=Lo _ h;omega
 ·have:=lX _ h;omega
 ·exact(ck.trans (k0.below (bI ck.size) (λk e=>by omega))).trans (k1.below G (λk e=>by omega))
 ·rcases K with rfl|h|h|h
  ·exact dC
  ·have:=Lo k h;omega
  ·have:=lX k h;omega
  ·cases h
theorem agL {af:Nat} {g:Raw} {N:Nat} {s t:Int} {pi:List Int} {ix:Nat} {cV:Option cp} {cF:Nat} (iH:jz g N) (dE:eq w af g) (aB:0<=s/\s<N) (ht:0<=t/\t<N) (xW:xV w (E eG 0 ix) []) (lB:cR w (E cV pi.length cF) pi) (nm:pi.length=0\/pi.length=N) (ax7:∀a∈fa g.arcs (jY g [] pi),ev pi a.1<=2*a.2.2+ev pi a.2.1):
 aE aa 75 #[J af 0,aZ #[r c s,r c t,E eG 0 ix,E cV pi.length cF]] w λe D=>HA w (c1 (fa g.arcs (jY g [] pi)) s t) e D:=by
 obtain⟨bk,el⟩:=al w.heap.size;obtain⟨bh,dW⟩:=al (bk+1);obtain⟨ay,bA⟩:=al ((w.alloc (an #[r c s,r c t,E eG 0 ix,E cV pi.length cF] 206)).alloc (an #[r c 0,E T 0 0,E T 0 0] 202));have aX:=oQ bA;have vC:V ay bk #[r c s,r c t,E eG 0 ix,E cV pi.length cF] 206:=by rw[bA,el];exact(V.new _ _ _ _).alloc _
 have Vl:V ay bh #[r c 0,E T 0 0,E T 0 0] 202:=by
  have k:=V.new (w.alloc (an #[r c s,r c t,E eG 0 ix,E cV pi.length cF] 206)) #[r c 0,E T 0 0,E T 0 0] 202 (0,0);rw[d8] at k;rw[bA,dW,el];exact k
 have agM:=apx (aG:=[]) (eG:=eG) (ix:=ix) (cV:=cV) (cF:=cF) iH (dE.a_ (bu.bg aX)) aB ht (.inl rfl) nm;simp only[gp] at agM;have HG:=I (cv iH (cv dE (cv aB (cv ht (cv xW (cv lB (cv nm ax7)))))));have cX:=I bA;have bP:=db el dW;have g_:=@hJ aa;have Lp:=aR vC 0;have HY:=aR vC 1;have agN:=aR vC 2;have agO:=aR vC 3;rw[bA,el] at Lp HY agN agO;clear bA;go_in;go_wp2_with fail;rw[<-cX.o,<-el,<-dW];clear el dW;refine dl agM λaJ a5=>?_;have k3:=vC.aq a5;have k4:=Vl.aq a5;have Lp:=aR k3 0;have HY:=aR k3 1;have agN:=aR k3 2;have agO:=aR k3 3;have fU:=aR k4 0;have fO:=aR k4 1;have fD:=aR k4 2;have gx:=jw k4;have j5:=gx 0;have f6:=gx 1;have eF:=gx 2;have i5:=ig (aX.next' a5) k3 k4;by_cases hst:s=t
 ·subst hst;go_wp2_with fail;have k:=((i5.o.2.2.set 0 (r c 0)).set 1 (E T 0 0)).set 2 (E T 0 0);have e0:=k.cell 0;have br:=k.cell 1;have a4:=k.cell 2;refine gh (v:=b8 #[aZ #[r c 0,E T 0 0,E T 0 0],r c 0]) (by simp at e0 br a4;simp[gq,aiW,go_sem,e0,br,a4]) rfl ?_;refine⟨T,0,0,T,0,0,?_,?_⟩
  ·rw[sl (d:=0) ⟨.nil,λd a9=>a9.s8 λa ha=>(HG.o.1.ok.aS a (y2 a ha)).2.2.1⟩]
  ·have aw:w.heap.size<=bh:=bI bP.o;exact((i5.o.1.setCell (p:=B bh 0) aw _).setCell (p:=B bh 1) aw _).setCell (p:=B bh 2) aw _
 obtain⟨q,aO⟩:=al aJ.heap.size;obtain⟨ba,cg⟩:=al (aJ.alloc (an #[J af 0,r c s,r c t,E eG 0 ix,E cV pi.length cF,a6 T,a6 T,r c 72057594037927936,E T 0 0,E T 0 0,r c 0] 217));have ck:=dx cg;have agP:=eK cg aO;obtain⟨P,dj⟩:∃P:kJ,P=⟨aJ,aJ.heap.size,af,g,N,s,t,[],pi,E eG 0 ix,E cV pi.length cF,q⟩:=⟨_,rfl⟩;have A4:P.e2:=by
  obtain⟨q1,q2,bm,cZ,ek,jg,s9,Aa⟩:=HG.o;have kb:=bu.bg i5.o.1;rw[dj];exact⟨q1,q2.a_ kb,ek.a_ kb,jg.a_ kb,rfl,s9,bY _,bm,cZ,Aa⟩
 have b1:=HG.o.1.nodes;have sq:=HG.o.1.jo;have ax8:eq ba af g:=HG.o.2.1.a_ (bu.bg (i5.o.1.next' ck));have ax9:=agA agP rfl rfl ax8 b1 sq 0 G s 1 95 133;have ax_:=I (show aE aa 132 #[J q 0,r c 0,r c s,r c 1,.func (.func 95) #[J af 0] #[],.func (.func 133) #[] #[]] ba _ from ax9);have PU:bk<aJ.heap.size:=i5.o.2.1.lt;have ax':=aR (i5.o.2.1.below ck PU) 0;rw[cg] at ax';have h4:=I cg;have hz:=I aO;have e_:=I dj;clear cg dj aO;go_wp2_with fail;rw[<-h4.o,<-hz.o];refine ax_.o.mono ?_;rintro e bi ⟨rfl,vU,p0,lu,Li,Lj,Lk,CP,Lo,agQ,aya⟩;have ayb:V bi q #[J af 0,r c s,r c t,E eG 0 ix,E cV pi.length cF,J vU 0,a6 T,r c 72057594037927936,E T 0 0,E T 0 0,r c 0] 217:=aya;have agR:ae aJ bi:=ck.trans (agQ.below ck.size (λk e=>by have:=hz.o;omega));have ayc:=agA ayb rfl rfl (HG.o.2.1.a_ (bu.bg (i5.o.1.next' agR))) b1 sq 1 G t (-1) 93 134;have ayd:=I (show aE aa 132 #[J q 0,r c 1,r c t,r c (-1),.func (.func 93) #[J af 0] #[],.func (.func 134) #[] #[]] bi _ from ayc);have HY:=aR (i5.o.2.1.below agR PU) 1;go_wp2_with fail;refine ayd.o.mono ?_;rintro e bD ⟨rfl,uC,p1,lv,Ll,Lm,Ln,AZ,lX,aye,ayf⟩;obtain⟨ik,HX⟩:∃aT:hC,aT=⟨vU,p0,lu,Li,Lj,Lk,((0:Nat):Int),1,.func (.func 95) #[J af 0] #[],.func (.func 133) #[] #[]⟩:=⟨_,rfl⟩;obtain⟨f7,qr⟩:∃aT:hC,aT=⟨uC,p1,lv,Ll,Lm,Ln,((1:Nat):Int),-1,.func (.func 93) #[J af 0] #[],.func (.func 134) #[] #[]⟩:=⟨_,rfl⟩;have Wn:l9 P ao ik f7 bD 0 0 (E T 0 0) 72057594037927936 0 ⟨λk=>k=p0\/k=lu,[],λ_=>T,λ_=>T,[]⟩ ⟨λk=>k=p1\/k=lv,[],λ_=>T,λ_=>T,[]⟩:=by
  have RC:q<ba.heap.size:=agP.lt;have oe:=hz.o;rw[HX,qr];have dj:=e_.o;subst dj;exact ax6 RC (tM oe.symm) ck CP Lo agQ AZ lX aye ayf
 have ub:C5 P.af ao ik:=by rw[HX,e_.o];exact⟨rfl,rfl,rfl,rfl⟩
 have xZ:C5 P.af ad f7:=by rw[qr,e_.o];exact⟨rfl,rfl,rfl,rfl⟩
 have e0:ik.cD=vU:=by rw[HX]
 have br:f7.cD=uC:=by rw[qr]
 obtain⟨ayg,agS⟩:=al ik.bX;obtain⟨ayh,agT⟩:=al f7.bX;have cH:=jU e0 br agS agT;have m5:P.q=q/\P.s=s/\P.t=t/\P.bH=aJ/\P.am=aJ.heap.size/\P.af=af/\P.N=N/\P.g=g/\P.aG=[]/\P.pi=pi:=by rw[e_.o];exact⟨rfl,rfl,rfl,rfl,rfl,rfl,rfl,rfl,rfl,rfl⟩
 have R5:aM (∀u,ae bD u->aE aa 135 #[J q 0,J vU 0,r c s,r c (-1),r c 0] u λe D=>e=au (b8 #[])/\∃dn ki,l9 P ao ik f7 D ki 0 (E T 0 0) 72057594037927936 0 dn ⟨λk=>k=p1\/k=lv,[],λ_=>T,λ_=>T,[]⟩/\HV P ao dn/\ki<=0+1):=λu Z=>by
  have h:=agv A4 ub (Wn.more Z) ⟨rfl,rfl,rfl,rfl⟩ rfl G;rw[show kk P.s P.t ao=P.s from rfl,m5.1,m5.2.1,cH.o.1] at h;exact h
 have bC:aM (∀u,ae bD u->u.cell? (B q 5)=A (J vU 0)/\u.cell? (B bk 0)=A (r c s)):=λu Z=>by
  have gl:=aR ((Wn.more Z).y.aH) 5;have Lp:=(Wn.more Z).below.cell (p:=B bk 0) (by rw[m5.2.2.2.2.1];exact PU);rw[m5.1] at gl;rw[m5.2.2.2.1,i5.o.2.1.cell] at Lp;rw[if_neg bj,cH.o.1] at gl;exact⟨gl,Lp⟩
 clear e0 br agS agT HX qr;go_wp2_with fail;refine jQ (λD=>D.cell? (B q 5)=A (J vU 0)/\D.cell? (B bk 0)=A (r c s)) 8 rfl ?_;change ej _ _ _ _ _ _ _ 9 _ _ bD.drew;obtain⟨et,dm⟩:=al bD.drew;have aL:=I (show ae bD et by rw[dm];exact(bx _ _).drew);rw[<-dm];clear dm;have ax:=bC.o _ aL.o;repeat first|refine fS ?_|refine ea ?_
 refine dJ 8 ?_;refine F1 (f:=135) rfl rfl (by rfl) (by go_simp) (R5.o et aL.o) (λe Wo ar=>?_);obtain⟨rfl,gT,ayi,Wp,agU,z2⟩:=ar;obtain⟨cG,fq⟩:=al Wo;subst fq;refine⟨_,rfl,gj,?_⟩;simp only[bN,bM,bO];refine fc ?_;have rc:gT.bc (kk P.s P.t ad)=T:=by
  rcases agU.2 with⟨_,h1,_⟩|⟨_,h1,_⟩
  ·rw[h1,kG _ _ (by show P.t≠P.s;rw[m5.2.1,m5.2.2.1];exactλe=>hst e.symm)]
  ·rw[h1]
 have t1:aM (∀u,ae cG u->aE aa 135 #[J q 0,J uC 0,r c t,r c (-1),r c 0] u λe D=>e=au (b8 #[])/\∃dn ki,l9 P ad f7 ik D ki 0 (E T 0 0) 72057594037927936 0 dn gT/\HV P ad dn/\ki<=ayi+1):=λu Z=>by
  have h:=agv (aU:=ad) A4 xZ (Wp.more Z).flip ⟨rfl,rfl,rfl,rfl⟩ rc G;rw[show kk P.s P.t ad=P.t from rfl,m5.1,m5.2.2.1,cH.o.2.1] at h;exact h
 have bC:aM (∀u,ae cG u->u.cell? (B q 6)=A (J uC 0)/\u.cell? (B bk 1)=A (r c t)):=λu Z=>by
  have kf:=aR ((Wp.more Z).y.aH) 6;have HY:=(Wp.more Z).below.cell (p:=B bk 1) (by rw[m5.2.2.2.2.1];exact PU);rw[m5.1] at kf;rw[m5.2.2.2.1,i5.o.2.1.cell] at HY;rw[if_neg bj,cH.o.2.1] at kf;exact⟨kf,HY⟩
 go_wp2_with fail;refine jQ (λD=>D.cell? (B q 6)=A (J uC 0)/\D.cell? (B bk 1)=A (r c t)) 8 rfl ?_;change ej _ _ _ _ _ _ _ 9 _ _ cG.drew;obtain⟨et,dm⟩:=al cG.drew;have aL:=I (show ae cG et by rw[dm];exact(bx _ _).drew);rw[<-dm];clear dm;have ax:=bC.o _ aL.o;repeat first|refine fS ?_|refine ea ?_
 refine dJ 8 ?_;refine F1 (f:=135) rfl rfl (by rfl) (by go_simp) (t1.o et aL.o) (λe Wo ar=>?_);obtain⟨rfl,ez,aFI,ayj,ayk,aFJ⟩:=ar;obtain⟨gY,y'⟩:=al Wo;subst y';refine⟨_,rfl,gj,?_⟩;simp only[bN,bM,bO];refine fc ?_;have nJ:=axX A4 (by rw[m5.2.1,m5.2.2.1];exact hst) ayj.flip agU ayk G;have ks:=I (nJ.next A4);rw[m5.1] at ks;have ayl:=I nJ;go_wp2_with fail;refine ks.o.mono ?_;rintro e eM ⟨c0,rfl,j7,fx⟩;subst eM;have VH:=I j7;go_wp2_with fail;go_loopw [7] (λu wr=>∃(x:ac) (gT ez:f5) (M aD:Nat) (bo:ac) (found meet:Int),u=x/\aM (HW P ik f7 wr gT ez M aD bo found meet)/\aM (Wm P ik f7 gT ez found meet x)) (λ_ wr=>C6 wr ayg N+C6 wr ayh N)
 ·exact⟨_,_,_,_,_,_,_,_,rfl,ayl,VH⟩
 ·obtain⟨x,gT,ez,M,aD,bo,found,meet,rfl,yi,e7⟩:=hrel;by_cases b9:u7=a6 T
  ·subst b9;have ak:c1 (fa P.g.arcs (jY P.g P.aG P.pi)) P.s P.t=found/\(found<72057594037927936->Lh P gT ez found meet):=by
    rcases e7.o with⟨_,h1,h2⟩|⟨h,_⟩|⟨h,_⟩
    ·exact⟨h1,h2⟩
    ·cases h
    ·cases h
   obtain⟨a8,bt,bp,EA⟩:=yi.o.st.y.slice;subst EA;obtain⟨X,HZ,PV,aym,Wq,agV,agW,ayn⟩:∃X:Array ac,V wr q X 217 (0,0)/\X[5]? =A (J vU 0)/\X[6]? =A (J uC 0)/\X[7]? =A (r c found)/\X[8]? =A (E T 0 0)/\X[9]? =A (E a8 bt bp)/\X[10]? =A (r c meet):=by
    have h:=yi.o.st.y.aH;rw[if_neg bj,if_neg bj,cH.o.1,cH.o.2.1,m5.1] at h;exact⟨_,h,rfl,rfl,rfl,rfl,rfl,rfl⟩
   have mT:ae aJ wr:=by have h:=yi.o.st.below;rw[m5.2.2.2.1,m5.2.2.2.2.1] at h;exact h
   have iR:c1 (fa g.arcs (jY g [] pi)) s t=found:=by have h:=ak.1;rw[e_.o] at h;exact h
   have x1:=I iR;have uv:w.heap.size<=bh:=bI bP.o;have agX:=i5.o.2.2.lt;by_cases a0:found<72057594037927936
   ·obtain⟨q0,q1,ayo⟩:=ak.2 a0;have Wr:=ayo.walk;have Wr:(∃d,gT.bc meet=A d)/\∃d,ez.bc meet=A d:=by
     rcases Wr with h|⟨_,h1,h2⟩
     ·omega
     ·exact⟨h1,h2⟩
    obtain⟨⟨d0,l0⟩,⟨d1,lW⟩⟩:=Wr;obtain⟨qJ,sp,rc⟩:=q0.o.chain l0;obtain⟨mY,pI,vF⟩:=q1.o.chain lW;have zq:=q0.o.y3 meet d0 l0;have ayp:=l9.back ub yi.o.st;have ayq:=l9.back xZ yi.o.st.flip;have ayr:P.am<=P.q:=by rw[m5.1,m5.2.2.2.2.1];have:=hz.o;omega
    have ays:P.am<=wr.heap.size:=yi.o.st.le;have b9:f7.cD≠P.q/\f7.ab≠P.q:=⟨λe=>yi.o.st.y.nq.2 (.inr (.inl e.symm)),λe=>yi.o.st.y.nq.2 (.inr (.inr (.inr (.inl e.symm))))⟩;have ayt:f7.cD<wr.heap.size/\f7.ab<wr.heap.size:=⟨e5.lt yi.o.st.y.rk (.inr (.inl rfl)),e5.lt yi.o.st.y.rk (.inr (.inr (.inr (.inl rfl))))⟩;have agY:=agy A4 ayp zq sp rc;rw[m5.1,cH.o.1] at agY;have uW:=qV ayq ayr ays b9 ayt;have sv:=I (cv HZ (cv PV (cv aym (cv Wq (cv agV (cv agW ayn))))));have agZ:=I (show qJ.length<=1000000/\mY.length<=1000000 from bI A4.dR.jo);have lM:wr.cell? (B q 7)=A (r c found):=by rw[HZ.cell];exact Wq
    have gl:wr.cell? (B q 5)=A (J vU 0):=by rw[HZ.cell];exact PV
    clear iR;go_wp2_with fail;refine agY.mono ?_;rintro e sC ⟨cP,hq,cC,rfl,es,w3⟩;have Ws:=sv.o.1.aq w3;have rz:sC.cell? (B q 8)=A (E T 0 0):=by rw[Ws.cell];exact sv.o.2.2.2.2.1
    have Be:=Ws.free 8 (.inr (cQ _));obtain⟨iv,lK⟩:=al (sC.setCell (B q 8) (E cP hq cC));have PB:∀k,(iB cP hq cC).ownBlock=A k->wr.heap.size<=k:=λk K=>(es.lt k K).1;have oe:q<wr.heap.size:=sv.o.1.lt;have ayu:iv.ownsRow wr.heap.size 3 1 (E cP hq cC) qJ.length (qJ.flatMap ec):=fB es λk K=>by rw[lK];exact d7 _ _ _ _ (show k≠q fromλe=>by have:=PB k K;omega)
    have ayv:=agZ.o.1;have ayw:=I (axZ rfl ayu ayv);have PW:∀j,(X.setIfInBounds 8 (E cP hq cC))[j]? =if 8=j then A (E cP hq cC) else X[j]? :=λj=>by
     rw[aCr];by_cases e:8=j
     ·rw[if_pos e,if_pos e,if_pos ((gU.1 sv.o.2.2.2.2.1).1)]
     ·rw[if_neg e,if_neg e]
    have PX:=I (show vT P ad f7 ez.dL meet iv/\P.am<=iv.heap.size/\ae aJ iv/\V iv q (X.setIfInBounds 8 (E cP hq cC)) 217 (0,0)/\(q<wr.heap.size/\aJ.heap.size<=wr.heap.size/\wr.heap.size<=iv.heap.size/\f7.cD<wr.heap.size/\f7.ab<wr.heap.size/\P.am<=wr.heap.size) from by
     obtain⟨cO,cq,fT,rd,nh⟩:=uW.o;have ayx:=w3.size;have ar:P.q=q:=m5.1;have iJ:=(cO.later fT w3).axY cq (E cP hq cC) rd.1 rd.2;rw[ar,<-lK] at iJ;refine⟨iJ,by rw[lK];simp;omega,?_,by rw[lK];exact Ws.set 8 _,oe,mT.size,by rw[lK];simp;exact ayx,nh.1,nh.2,fT⟩;rw[lK];exact((mT.trans (w3.mono mT.size))).setCell (p:=B q 8) (by have:=hz.o;show aJ.heap.size<=q;omega) _)
    have yU:=I lK;clear lK;go_wp2_with fail;rw[<-yU.o];refine ayw.o.mono ?_;rintro e fd ⟨rfl,⟨R',ag0,Wt⟩,vs⟩;have aFK:=vs;have H0:=I (show vT P ad f7 ez.dL meet fd/\P.am<=fd.heap.size/\ae aJ fd/\V fd q (X.setIfInBounds 8 (E cP hq cC)) 217 (0,0)/\iv.heap.size<=fd.heap.size from by
     obtain⟨cO,cq,fT,rd,nh,Ew,Ex,aFL,abF,ayy⟩:=PX.o;have cb:∀k,(iB cP hq cC).ownBlock=A k->wr.heap.size<=k:=PB;have ar:P.q=q:=m5.1;refine⟨cO.kept vs ⟨λh=>?_,λh=>?_,λh=>?_⟩ cq (λk K=>cM ayy (cb k K)),cM cq vs.size,fT.trans (vs.below G (λk K=>by have:=cb k K;omega)),vs.aH rd (λh=>?_),vs.size⟩
     ·have:=cb _ h;omega
     ·have:=cb _ h;omega
     ·have:=cb _ h;omega
     ·have:=cb _ h;omega)
    have ayz:aM (∀u,ae fd u->aE aa 138 #[J q 0,J uC 0] u λe D=>∃cV iY cF,e=au (E cV iY cF)/\D.ownsRow u.heap.size 3 1 (E cV iY cF) mY.length (mY.flatMap ec)/\ae u D):=λu Z=>by
     have h:=agy A4 (H0.o.1.later H0.o.2.1 Z) zq pI vF;rw[m5.1,cH.o.2.1] at h;exact h
    have bC:aM (∀u,ae fd u->u.cell? (B q 8)=A (E cP hq cC)/\u.cell? (B q 6)=A (J uC 0)):=λu Z=>by
     have nZ:=H0.o.2.2.2.1.aq Z;refine⟨by rw[nZ.cell,PW 8];rfl,by rw[nZ.cell,PW 6];exact sv.o.2.2.1⟩
    have ayA:=db ag0 Wt;go_wp2_with fail;refine pF 13 bC.o λdV dz ax=>?_;have aL:=I dz;repeat first|refine fS ?_|refine ea ?_
    refine dJ 12 ?_;refine e3 138 #[J q 0,J uC 0] (ayz.o dV aL.o) ?_;rintro e u ⟨eR,iF,ey,rfl,es,hb⟩;refine⟨_,rfl,?_⟩;have hf:(cR u (E eR iF ey) mY):=jv rfl es;have kI:=aL;have aL:=I (kI.o.trans (hb.mono kI.o.size));refine⟨λ_=>bC.o _ aL.o,?_⟩;simp only[bN,bM,bO];have ax:=bC.o _ aL.o;repeat first|refine fS ?_|refine ea ?_
    obtain⟨eP,ag,fL,gi,gt⟩:=m6 wn;obtain⟨ag0,Wt⟩:=ayA.o;have K0:=o' Wt aL.o;have aw:=agZ.o;obtain⟨ca,nw,hE,aQ,hg,gP,_⟩:=tU (P:=aa) wr.heap.size 41 41 3 eP _ 1 8 nG ag fL gi gt rfl G _ _ _ K0 _ mY.length _ (cR.row hf) (by unfold ff;omega) G (by have:=aL.o.size;have:=H0.o.2.2.2.2;have:=PX.o.2.2.2.2.2.2.1;omega);obtain⟨e',mZ,eD,rfl⟩:=aQ.ic;have ag1:=PB;have ayB:∀k,k<wr.heap.size->A k≠(iB cP hq cC).ownBlock:=λk K e=>by have:=ag1 k e.symm;omega
    have oe:=PX.o.2.2.2.2.1;have aFM:=PX.o.2.2.2.2.2.1;have Wu:=H0.o.2.2.2.1.aq aL.o;have Wv:V nw q (X.setIfInBounds 8 (E cP hq cC)) 217:=(hg.block q Wu.lt (ayB q oe)).trans Wu;have pU:ae aJ nw:=(H0.o.2.2.1.next' aL.o|>λz=>z).grown hg (g3 Wu.lt hz.o) (λk K=>by have:=ag1 k K;omega);obtain⟨H1,PY⟩:=al (nw.setCell (B q 8) (E e' mZ eD));have nd:ae aJ H1:=by rw[PY];exact pU.setCell (p:=B q 8) (by show aJ.heap.size<=q;have:=hz.o;omega) _
    have Ww:V H1 q ((X.setIfInBounds 8 (E cP hq cC)).setIfInBounds 8 (E e' mZ eD)) 217:=by rw[PY];exact Wv.set 8 (E e' mZ eD)
    have rz:nw.cell? (B q 8)=A (E cP hq cC):=by rw[Wv.cell,PW 8];rfl
    have Be:=Wv.free 8 (.inr (cQ _));have Wx:∀j,((X.setIfInBounds 8 (E cP hq cC)).setIfInBounds 8 (E e' mZ eD))[j]? =if 8=j then A (E e' mZ eD) else X[j]? :=λj=>by
     rw[aCr];by_cases e:8=j
     ·rw[if_pos e,if_pos e,if_pos (by rw[Array.size_setIfInBounds];exact(gU.1 sv.o.2.2.2.2.1).1)]
     ·rw[if_neg e,if_neg e,PW,if_neg e]
    refine dJ 13 ?_;refine tP (ca:=E e' mZ eD) (D:=nw) rfl rfl rfl (by rfl) (.tmp 97) (.tmp 104) _ _ rfl hE ?_;refine⟨gj,?_⟩;simp only[bN,bM,bO];repeat refine ea ?_
    refine dJ 17 ?_;refine lG H1 ?_ (he:=by rw[PY];go_simp);have F0:H1.cell? (B q 7)=A (r c found):=by rw[Ww.cell,Wx 7];exact sv.o.2.2.2.1
    have QU:H1.cell? (B q 8)=A (E e' mZ eD):=by rw[Ww.cell,Wx 8];rfl
    have Mn:H1.cell? (B q 9)=A (E a8 bt bp):=by rw[Ww.cell,Wx 9];exact sv.o.2.2.2.2.2.1
    have k4:=i5.o.2.2.below nd agX;have fU:=aR k4 0;have fO:=aR k4 1;have fD:=aR k4 2;have gx:=jw k4;have j5:=gx 0;have f6:=gx 1;have eF:=gx 2;clear PY;refine⟨gj,?_⟩;refine fc ?_;go_wp2_with fail;have k:=((k4.set 0 (r c found)).set 1 (E e' mZ eD)).set 2 (E a8 bt bp);have e0:=k.cell 0;have br:=k.cell 1;have a4:=k.cell 2;refine gh (v:=b8 #[aZ #[r c found,E e' mZ eD,E a8 bt bp],r c 0]) (by simp at e0 br a4;simp[gq,aiW,go_sem,e0,br,a4]) rfl ?_;refine⟨e',mZ,eD,a8,bt,bp,by rw[x1.o],?_⟩;exact(((i5.o.1.next' nd).setCell (p:=B bh 0) uv _).setCell (p:=B bh 1) uv _).setCell (p:=B bh 2) uv _
   ·have lM:wr.cell? (B q 7)=A (r c found):=by rw[HZ.cell];exact Wq
    have rz:wr.cell? (B q 8)=A (E T 0 0):=by rw[HZ.cell];exact agV
    have D4:wr.cell? (B q 9)=A (E a8 bt bp):=by rw[HZ.cell];exact agW
    have k4:=i5.o.2.2.below mT agX;have fU:=aR k4 0;have fO:=aR k4 1;have fD:=aR k4 2;have gx:=jw k4;have j5:=gx 0;have f6:=gx 1;have eF:=gx 2;clear iR;go_wp2_with fail;have k:=((k4.set 0 (r c found)).set 1 (E T 0 0)).set 2 (E a8 bt bp);have e0:=k.cell 0;have br:=k.cell 1;have a4:=k.cell 2;refine gh (v:=b8 #[aZ #[r c found,E T 0 0,E a8 bt bp],r c 0]) (by simp at e0 br a4;simp[gq,aiW,go_sem,e0,br,a4]) rfl ?_;refine⟨T,0,0,a8,bt,bp,by rw[x1.o],?_⟩;exact(((i5.o.1.next' mT).setCell (p:=B bh 0) uv _).setCell (p:=B bh 1) uv _).setCell (p:=B bh 2) uv _
  ·obtain⟨cD,rfl,tY⟩:=axW A4 ub xZ yi.o e7.o b9;rw[m5.1] at tY;go_wp2_with fail;refine tY.mono ?_;rintro e sC ⟨rfl,agw,agx,ki,iW,gH,iy,i_,ag2,a0⟩;have ks:=I (ag2.next A4);rw[m5.1] at ks;rw[<-cH.o.2.2.1,<-cH.o.2.2.2,m5.2.2.2.2.2.2.1] at a0;have ayC:=I ag2;go_wp2_with fail;refine ks.o.mono ?_;rintro e eM ⟨DB,rfl,u0,fx⟩;subst eM;have Rn:=I u0;go_wp2_with fail;go_roundw
   ·exact⟨_,_,_,_,_,_,_,_,rfl,ayC,Rn⟩
   ·exact a0
theorem ayD {af:Nat} {g:Raw} {N:Nat} {b0:List Int} (hf:jz g N) (dE:eq w af g) (h:jq w bE g N b0) (hm:1<=b0.length/\b0.length<=12) {s t:Nat} (aB:s<N) (ht:t<N) (hst:s≠t) (dF cr:Int):
 aE aa 79 #[J af 0,J bE 0,aZ #[r c dF,r c s,r c t,r c cr]] w λe D=>p4 w (c1 g.arcs s t) e D:=by
 obtain⟨cl,iR⟩:=al (c1 g.arcs s t);rw[<-iR];obtain⟨bF,eV⟩:=al w.heap.size;obtain⟨d3,eS⟩:=al (bF+1);obtain⟨ba,cg⟩:=al ((w.alloc (an #[r c dF,r c s,r c t,r c cr] 50)).alloc (an #[r c 0,r c 0,E T 0 0,E T 0 0] 45));have ck:=oQ cg;have k5:V ba bF #[r c dF,r c s,r c t,r c cr] 50:=by rw[cg,eV];exact(V.new _ _ _ _).alloc _
 have k6:V ba d3 #[r c 0,r c 0,E T 0 0,E T 0 0] 45:=by
  have k:=V.new (w.alloc (an #[r c dF,r c s,r c t,r c cr] 50)) #[r c 0,r c 0,E T 0 0,E T 0 0] 45 (0,0);rw[d8] at k;rw[cg,eS,eV];exact k
 have m0:aM (∀u,ae ba u->eq u af g):=λu Z=>dE.a_ (bu.bg (ck.next' Z));have wU:aM (∀u,ae ba u->jq u bE g N b0):=λu Z=>h.a_ (bu.bg (ck.next' Z));have oB:aM (∀u,ae ba u->u.cell? (B bF 0)=A (r c dF)/\u.cell? (B bF 1)=A (r c s)/\u.cell? (B bF 2)=A (r c t)/\u.cell? (B bF 3)=A (r c cr)):=λu Z=>⟨(k5.aq Z).cell 0,(k5.aq Z).cell 1,(k5.aq Z).cell 2,(k5.aq Z).cell 3⟩;have HC:aM (∀u,ae ba u->V u d3 #[r c 0,r c 0,E T 0 0,E T 0 0] 45):=λu Z=>k6.aq Z;have dh:=db ck (show w.heap.size<=d3 by omega);have wV:=hf;have x1:=I iR;have pZ:=I h.G8;have g_:=@hJ aa;have hk:aM (∀u,ae ba u->aE aa 144 #[J af 0,J bE 0,aZ #[r c dF,r c s,r c t,r c cr]] u λe D=>e=au (b8 #[])/\ae u D):=λu Z=>axo (m0.o u Z) (wU.o u Z) hm.1 aB ht dF cr;have Kt:aM (∀u,ae ba u->aE aa 141 #[J bE 0,r c s,r c t,r c cr] u λe D=>∃a Q R,e=au (E a (pA Q) R)/\cR D (E a (pA Q) R) Q/\(∀x∈Q,0<=x/\x<b0.length)/\Q.length<=12/\ae u D):=λu Z=>Uv (wU.o u Z) hm aB ht cr;obtain⟨bR,aV,bb,ch⟩:=oB.o ba (bx _ _);rw[cg,eV] at bR aV bb ch;have OS:(s:Int)≠t:=G;have h4:=I cg;clear cg iR
 go_enter_defers func79,ntmps79
 go_wp2_with fail;rw[<-h4.o,<-eV,<-eS];clear eV eS;refine dl (hk.o _ (bx _ _)) λbi c_=>?_;obtain⟨bR,aV,bb,ch⟩:=oB.o bi c_;have UI:=I (Kt.o bi c_);go_wp2_with fail;refine UI.o.mono ?_;rintro e bD ⟨dG,Q,fF,rfl,ak,hA,pO,cT⟩;obtain⟨g9,x5⟩:=al (AF g N (l4 b0 Q) s t);have sD:=c_.next' cT;have n2:Ct g N s t g9:= .inr ⟨l4 b0 Q,UH pZ.o hA,x5⟩;have bC:aM (∀u,ae bD u->u.cell? (B bF 1)=A (r c s)/\u.cell? (B bF 2)=A (r c t)):=λu Z=>by
  obtain⟨_,aV,bb,_⟩:=oB.o u (sD.next' Z);exact⟨aV,bb⟩
 have m1:aM (∀u,ae bD u->aE aa 146 #[J bE 0,E dG Q.length fF,r c s,r c t] u λe D=>∃a R,e=au (E a g9.length R)/\cR D (E a g9.length R) g9/\ae u D):=λu Z=>by
  rw[x5];exact ary wV.ok (wU.o u (sD.next' Z)) (ak.a_ (bu.bg Z)) G hA aB ht
 have Ku:aM (∀u cV cF,ae bD u->cR u (E cV g9.length cF) g9->aE aa 75 #[J af 0,aZ #[r c s,r c t,E T 0 0,E cV g9.length cF]] u λe D=>HA u cl e D):=λu cV cF Z aP=>by
  have aC:=wV.nodes;have p5:0<=((t:Nat):Int)/\((t:Nat):Int)<g.nodes:=bI ht;have uS:0<=((s:Nat):Int)/\((s:Nat):Int)<g.nodes:=bI aB;rw[x1.o,<-n2.same wV.ok aC uS p5];exact agL (eG:=T) (ix:=0) wV (m0.o u (sD.next' Z)) (bI aB) (bI ht) (OR u) aP n2.len (n2.arcs wV.ok aC uS p5)
 clear x5;go_wp2_with fail;refine(FG (n:=9) (P:=aa)).1 (Mu (m:=9) 18 bC.o λdV dz ax=>?_);repeat first|refine fS ?_|refine ea ?_
 refine yI [11,12,13,14,15,16,17] (λoA gy tu hh u=>match oA with
  |11=>∃(cV:Option cp) (cF:Nat),gy=E cV g9.length cF/\(cR u (E cV g9.length cF) g9)
  |12=>∃(cV:Option cp) (cF:Nat),gy=aZ #[r c s,r c t,E T 0 0,E cV g9.length cF]/\(cR u (E cV g9.length cF) g9)
  |13=>∃(c3:Option cp) (c4:Nat) (c5:Nat) (a8:Option cp) (bt:Nat) (bp:Nat),gy=b8 #[aZ #[r c cl,E c3 c4 c5,E a8 bt bp],r c 0]
  |14=>∃(c3:Option cp) (c4:Nat) (c5:Nat) (a8:Option cp) (bt:Nat) (bp:Nat),gy=aZ #[r c cl,E c3 c4 c5,E a8 bt bp]
  |15=>gy=r c 0
  |16=>∃(c3:Option cp) (c4:Nat) (c5:Nat) (a8:Option cp) (bt:Nat) (bp:Nat),gy=aZ #[r c cl,E c3 c4 c5,E a8 bt bp]
  |17=>∃(em:Nat),gy=a6 (A ⟨em,0,T⟩)/\(V u em #[r c 0,E T 0 0,E T 0 0] 202 (0,0)/\bD.heap.size<=em)
  |_=>True) (eF:=1) ?_ (λD bU=>bC.o _ (dz.next' bU)) ?_ (λdZ jZ ia u hb dK mR=>?_)
 ·intro oA gy tu hh iV j' ah hb _;try dsimp only at ah⊢
  split at ah
  ·obtain⟨cV,cF,e,C8⟩:=ah;exact⟨cV,cF,e,(C8.a_ (bu.bg hb))⟩
  ·obtain⟨cV,cF,e,C8⟩:=ah;exact⟨cV,cF,e,(C8.a_ (bu.bg hb))⟩
  ·obtain⟨c3,c4,c5,a8,bt,bp,e⟩:=ah;exact⟨c3,c4,c5,a8,bt,bp,e⟩
  ·obtain⟨c3,c4,c5,a8,bt,bp,e⟩:=ah;exact⟨c3,c4,c5,a8,bt,bp,e⟩
  ·exact ah
  ·obtain⟨c3,c4,c5,a8,bt,bp,e⟩:=ah;exact⟨c3,c4,c5,a8,bt,bp,e⟩
  ·obtain⟨em,e,Fv⟩:=ah;exact⟨em,e,⟨Fv.1.aq hb,Fv.2⟩⟩
  ·trivial
 ·intro dO ag fj dZ jZ ia hH u hp fP hF;simp only[gg,iS,or_false] at ag;have aL:=I (dz.next' hF.below);rcases ag with rfl|rfl|rfl|rfl|rfl|rfl|rfl
  ·have t34:hH[34]? =A (J bE 0):=hF.base fP 34;have t35:hH[35]? =A (E dG Q.length fF):=hF.base fP 35;have t37:hH[37]? =A (r c s):=hF.base fP 37;have t39:hH[39]? =A (r c t):=hF.base fP 39;refine e3 146 #[J bE 0,E dG Q.length fF,r c s,r c t] (m1.o u aL.o) ?_;rintro e cz ⟨cV,cF,rfl,ak,hb⟩;refine⟨_,rfl,?_⟩;have hf:(cR cz (E cV g9.length cF) g9):=ak;exact⟨_,rfl,hb,cV,cF,rfl,hf⟩
  ·have t31:hH[31]? =A (r c s):=hF.base fP 31;have t33:hH[33]? =A (r c t):=hF.base fP 33;obtain⟨t40,⟨cV,cF,ayE,C8⟩,_⟩:=hF.jV hp 11 40;rw[ayE] at t40;exact gD (aZ #[r c s,r c t,E T 0 0,E cV g9.length cF]) u ⟨_,rfl,bx _ _,cV,cF,rfl,C8⟩
  ·have t29:hH[29]? =A (J af 0):=hF.base fP 29;obtain⟨t41,⟨cV,cF,ayF,C8⟩,_⟩:=hF.jV hp 12 41;rw[ayF] at t41;refine e3 75 #[J af 0,aZ #[r c s,r c t,E T 0 0,E cV g9.length cF]] (Ku.o u cV cF aL.o C8) ?_;rintro e cz ⟨c3,c4,c5,a8,bt,bp,rfl,hb⟩;refine⟨_,rfl,?_⟩;have hf:True:=trivial;exact⟨_,rfl,hb,c3,c4,c5,a8,bt,bp,rfl⟩
  ·obtain⟨t42,⟨c3,c4,c5,a8,bt,bp,Wy⟩,_⟩:=hF.jV hp 13 42;rw[Wy] at t42;exact gD (aZ #[r c cl,E c3 c4 c5,E a8 bt bp]) u ⟨_,rfl,bx _ _,c3,c4,c5,a8,bt,bp,rfl⟩
  ·obtain⟨t42,⟨c3,c4,c5,a8,bt,bp,Wy⟩,_⟩:=hF.jV hp 13 42;rw[Wy] at t42;exact gD (r c 0) u ⟨_,rfl,bx _ _,rfl⟩
  ·obtain⟨t43,⟨c3,c4,c5,a8,bt,bp,ayG⟩,_⟩:=hF.jV hp 14 43;rw[ayG] at t43;obtain⟨t44,ayH,_⟩:=hF.jV hp 15 44;rw[show dZ 15=_ from ayH] at t44;refine e3 145 #[aZ #[r c cl,E c3 c4 c5,E a8 bt bp],r c 0] (axp cl c3 c4 c5 a8 bt bp u) ?_;rintro e cz ⟨rfl,hb⟩;refine⟨_,rfl,?_⟩;have hf:True:=trivial;exact⟨_,rfl,hb,c3,c4,c5,a8,bt,bp,rfl⟩
  ·have hb:ae u (u.alloc (an #[r c 0,E T 0 0,E T 0 0] 202)):=fb;have hf:V (u.alloc (an #[r c 0,E T 0 0,E T 0 0] 202)) u.heap.size #[r c 0,E T 0 0,E T 0 0] 202 (0,0)/\bD.heap.size<=u.heap.size:=⟨V.new _ _ _ _,aL.o.size⟩;refine gD (J u.heap.size 0) (u.alloc (an #[r c 0,E T 0 0,E T 0 0] 202)) ?_;exact⟨_,rfl,hb,_,rfl,hf⟩
 obtain⟨⟨cV,cF,vH,C8⟩,_⟩:=dK 11 a3;obtain⟨⟨aFN,aFO,AQ,aFP⟩,_⟩:=dK 12 a3;obtain⟨⟨aFQ,aFR,aFS,aFT,aFU,aFV,AR⟩,_⟩:=dK 13 a3;obtain⟨⟨aFW,aFX,aFY,aFZ,aF0,aF1,wT⟩,_⟩:=dK 14 a3;have vJ:dZ 15=_:=(dK 15 a3).1;obtain⟨⟨c3,c4,c5,a8,bt,bp,KF⟩,_⟩:=dK 16 a3;obtain⟨⟨em,U1,Fv⟩,_⟩:=dK 17 a3;rw[vH,AQ,AR,wT,vJ,KF,U1];have aL:=I (dz.next' hb);have k10:=Fv.1;have fU:=aR k10 0;have fO:=aR k10 1;have fD:=aR k10 2;have gx:=jw k10;have j5:=gx 0;have f6:=gx 1;have eF:=gx 2;obtain⟨eo,iz⟩:=al (((u.setCell (B em 0) (r c cl)).setCell (B em 1) (E c3 c4 c5)).setCell (B em 2) (E a8 bt bp));have k:=((k10.set 0 (r c cl)).set 1 (E c3 c4 c5)).set 2 (E a8 bt bp);have lL:ae bD eo:=by
  rw[iz];exact((aL.o.setCell (p:=B em 0) Fv.2 _).setCell (p:=B em 1) Fv.2 _).setCell (p:=B em 2) Fv.2 _
 refine dJ 18 ?_;refine lG eo ?_ (he:=by rw[iz];go_simp);rw[<-iz] at k;have cH:=db k (sD.next' lL);clear iz;refine⟨gj,?_⟩;refine fc (tQ.normal ?_);have NL:aM (∀u,ae eo u->u.cell? (B em 0)=A (r c cl)/\u.cell? (B em 1)=A (E c3 c4 c5)/\u.cell? (B em 2)=A (E a8 bt bp)):=λu Z=>⟨(cH.o.1.aq Z).cell 0,(cH.o.1.aq Z).cell 1,(cH.o.1.aq Z).cell 2⟩;obtain⟨e0,br,a4⟩:=NL.o eo (bx _ _);by_cases se:cl<72057594037927936
 ·go_wp2_with fail;refine dl (HU 20 _) λfd oo=>?_;obtain⟨aF2,aF3,aF4⟩:=NL.o fd oo;have kW:=cH.o.2.next' oo;have k6:=HC.o fd kW;have gc:=aR k6 0;have f8:=aR k6 1;have h7:=aR k6 2;have oq:=aR k6 3;have h':=jw k6;have zb:=h' 0;have g':=h' 1;have iE:=h' 2;have jx:=h' 3;have cW:=I ((((k6.set 0 (r c 0)).set 1 (r c cl)).set 2 (E c3 c4 c5)).set 3 (E dG Q.length fF));have Lq:=I (((((dh.o.1.next' kW).setCell (p:=B d3 0) dh.o.2 (r c 0)).setCell (p:=B d3 1) dh.o.2 (r c cl)).setCell (p:=B d3 2) dh.o.2 (E c3 c4 c5)).setCell (p:=B d3 3) dh.o.2 (E dG Q.length fF));go_wp2_with fail;refine Ii (f:=143) (args:=#[J d3 0]) a3 (by simp[go_sem]) ?_;refine(axq (B d3 0) _).mono ?_;rintro e ed fo ⟨rfl,rfl,rfl⟩;have r0:=cW.o.cell 0;have r1:=cW.o.cell 1;have r2:=cW.o.cell 2;have eC:=cW.o.cell 3;simp at r0 r1 r2 eC;refine⟨b8 #[aZ #[r c 0,r c cl,E c3 c4 c5,E dG Q.length fF],E a8 bt bp],by simp[gq,aCs,go_sem,r0,r1,r2,eC],c3,c4,c5,dG,Q.length,fF,a8,bt,bp,?_,Lq.o⟩;unfold i0 i1;rw[if_neg G,if_neg G]
 ·have Kx:72057594037927936<=cl:=G;go_wp2_with fail;refine dl (axf 20 _) λfd lF=>?_;subst fd;have k6:=HC.o eo cH.o.2;refine Ii (f:=143) (args:=#[J d3 0]) a3 (by simp[go_sem]) ?_;refine(axr d3 20 0 0 (E T 0 0) (E T 0 0) [] eo k6).mono ?_;rintro e ed nw ⟨rfl,rfl,pU,k12⟩;have r0:=k12.cell 0;have r1:=k12.cell 1;have r2:=k12.cell 2;have eC:=k12.cell 3;simp at r0 r1 r2 eC;refine⟨b8 #[aZ #[r c 20,r c 0,E T 0 0,E T 0 0],E a8 bt bp],by simp[gq,aCs,go_sem,r0,r1,r2,eC],T,0,0,T,0,0,a8,bt,bp,?_,(dh.o.1.next' cH.o.2).trans (pU.mono dh.o.2)⟩;unfold i0 i1;rw[if_pos Kx,if_pos Kx]
section
attribute [local go_sem] f'
theorem ayI {af:Nat} {g:Raw} {s t:Nat} (hb:V w df #[J af 0,J bE 0,a6 ga,a6 eG] 69) (hE:∀u,ae w u->aE aa 77 #[J af 0,J bE 0,aZ #[r c dF,r c s,r c t,r c cr]] u λe D=>p4 u (c1 g.arcs s t) e D):aE aa 76 #[J df 0,aZ #[r c dF,r c s,r c t,r c cr]] w λe D=>p4 w (c1 g.arcs s t) e D:=by
 obtain⟨cl,iR⟩:=al (c1 g.arcs s t);rw[<-iR] at hE⊢;obtain⟨bk,el⟩:=al w.heap.size;obtain⟨bh,dW⟩:=al (bk+1);obtain⟨ba,cg⟩:=al ((w.alloc (an #[r c dF,r c s,r c t,r c cr] 50)).alloc (an #[r c 0,r c 0,E T 0 0,E T 0 0] 45));have ck:=oQ cg;have k3:V ba bk #[r c dF,r c s,r c t,r c cr] 50:=by rw[cg,el];exact(V.new _ _ _ _).alloc _
 have k4:V ba bh #[r c 0,r c 0,E T 0 0,E T 0 0] 45:=by
  have k:=V.new (w.alloc (an #[r c dF,r c s,r c t,r c cr] 50)) #[r c 0,r c 0,E T 0 0,E T 0 0] 45 (0,0);rw[d8] at k;rw[cg,dW,el];exact k
 have bC:aM (∀u,ae ba u->u.cell? (B df 0)=A (J af 0)/\u.cell? (B df 1)=A (J bE 0)/\u.cell? (B bk 0)=A (r c dF)/\u.cell? (B bk 1)=A (r c s)/\u.cell? (B bk 2)=A (r c t)/\u.cell? (B bk 3)=A (r c cr)):=λu Z=>by
  have q:=hb.aq (ck.next' Z);have bm:=k3.aq Z;exact⟨q.cell 0,q.cell 1,bm.cell 0,bm.cell 1,bm.cell 2,bm.cell 3⟩
 have rC:=I (λu (Z:ae ba u)=>hE u (ck.next' Z));have q8:=I (λu (Z:ae ba u)=>k4.aq Z);have dh:=db ck (show w.heap.size<=bh by omega);have h4:=I cg;clear cg iR;go_in;go_wp2_with fail;rw[<-h4.o,<-el,<-dW];clear el dW;refine pF 12 bC.o λdV dz ax=>?_;repeat first|refine fS ?_|refine ea ?_
 refine yI [9,10,11] (λoA gy tu hh u=>match oA with
  |9=>∃(p1:Option cp) (b2:Nat) (aV:Nat) (p2:Option cp) (cm:Nat) (bb:Nat) (a8:Option cp) (bt:Nat) (bp:Nat),gy=b8 #[aZ #[r c (i0 cl),r c (i1 cl),E p1 b2 aV,E p2 cm bb],E a8 bt bp]
  |10=>∃(p1:Option cp) (b2:Nat) (aV:Nat) (p2:Option cp) (cm:Nat) (bb:Nat),gy=aZ #[r c (i0 cl),r c (i1 cl),E p1 b2 aV,E p2 cm bb]
  |11=>∃(a8:Option cp) (bt:Nat) (bp:Nat),gy=E a8 bt bp
  |_=>True) (eF:=2) ?_ (λD bU=>bC.o _ (dz.next' bU)) ?_ (λdZ jZ ia u hb dK mR=>?_)
 ·intro oA gy tu hh iV j' ah hb _;try dsimp only at ah⊢
  split at ah
  ·obtain⟨p1,b2,aV,p2,cm,bb,a8,bt,bp,e⟩:=ah;exact⟨p1,b2,aV,p2,cm,bb,a8,bt,bp,e⟩
  ·obtain⟨p1,b2,aV,p2,cm,bb,e⟩:=ah;exact⟨p1,b2,aV,p2,cm,bb,e⟩
  ·obtain⟨a8,bt,bp,e⟩:=ah;exact⟨a8,bt,bp,e⟩
  ·trivial
 ·intro dO ag fj dZ jZ ia hH u hp fP hF;simp only[gg,iS,or_false] at ag;have aL:=I (dz.next' hF.below);rcases ag with rfl|rfl|rfl
  ·have uP:hH[9]? =A (J af 0):=hF.base fP 9;have t13:hH[13]? =A (J bE 0):=hF.base fP 13;have t14:hH[14]? =A (aZ #[r c dF,r c s,r c t,r c cr]):=hF.base fP 14;refine e3 77 #[J af 0,J bE 0,aZ #[r c dF,r c s,r c t,r c cr]] (rC.o u aL.o) ?_;rintro e cz ⟨p1,b2,aV,p2,cm,bb,a8,bt,bp,rfl,hb⟩;refine⟨_,rfl,?_⟩;have hf:True:=trivial;exact⟨_,rfl,hb,p1,b2,aV,p2,cm,bb,a8,bt,bp,rfl⟩
  ·obtain⟨t15,⟨p1,b2,aV,p2,cm,bb,a8,bt,bp,vJ⟩,_⟩:=hF.jV hp 9 15;rw[vJ] at t15;exact gD (aZ #[r c (i0 cl),r c (i1 cl),E p1 b2 aV,E p2 cm bb]) u ⟨_,rfl,bx _ _,p1,b2,aV,p2,cm,bb,rfl⟩
  ·obtain⟨t15,⟨p1,b2,aV,p2,cm,bb,a8,bt,bp,vJ⟩,_⟩:=hF.jV hp 9 15;rw[vJ] at t15;exact gD (E a8 bt bp) u ⟨_,rfl,bx _ _,a8,bt,bp,rfl⟩
 obtain⟨⟨ayJ,ayK,ayL,ayM,ayN,ayO,ayP,ayQ,ayR,om⟩,_⟩:=dK 9 a3;obtain⟨⟨p1,b2,aV,p2,cm,bb,EW⟩,_⟩:=dK 10 a3;obtain⟨⟨a8,bt,bp,vH⟩,_⟩:=dK 11 a3;rw[om,EW,vH];have aL:=I (dz.next' hb);have k4:=q8.o u aL.o;have gc:=aR k4 0;have f8:=aR k4 1;have h7:=aR k4 2;have oq:=aR k4 3;have h':=jw k4;have zb:=h' 0;have g':=h' 1;have iE:=h' 2;have jx:=h' 3;obtain⟨eo,iz⟩:=al ((((u.setCell (B bh 0) (r c (i0 cl))).setCell (B bh 1) (r c (i1 cl))).setCell (B bh 2) (E p1 b2 aV)).setCell (B bh 3) (E p2 cm bb));have k:=(((k4.set 0 (r c (i0 cl))).set 1 (r c (i1 cl))).set 2 (E p1 b2 aV)).set 3 (E p2 cm bb);have lL:ae w eo:=by
  rw[iz];exact(((((dh.o.1.next' aL.o).setCell (p:=B bh 0) dh.o.2 _).setCell (p:=B bh 1) dh.o.2 _).setCell (p:=B bh 2) dh.o.2 _).setCell (p:=B bh 3) dh.o.2 _)
 refine dJ 12 ?_;refine lG eo ?_ (he:=by rw[iz];go_simp);rw[<-iz] at k;clear iz;refine⟨gj,?_⟩;refine kr 13 (E a8 bt bp) eo ?_;refine fc ?_;go_wp2_with fail;have r0:=k.cell 0;have r1:=k.cell 1;have r2:=k.cell 2;have eC:=k.cell 3;refine gh (v:=b8 #[aZ #[r c (i0 cl),r c (i1 cl),E p1 b2 aV,E p2 cm bb],E a8 bt bp]) (by simp at r0 r1 r2 eC;simp[gq,results76,go_sem,r0,r1,r2,eC]) rfl ?_;exact⟨p1,b2,aV,p2,cm,bb,a8,bt,bp,rfl,lL⟩
theorem ayS {af:Nat} {g:Raw} {s t:Nat} (hb:V w df #[J af 0,J bE 0,a6 ga,a6 eG] 69) (hE:∀u,ae w u->aE aa 79 #[J af 0,J bE 0,aZ #[r c dF,r c s,r c t,r c cr]] u λe D=>p4 u (c1 g.arcs s t) e D):aE aa 78 #[J df 0,aZ #[r c dF,r c s,r c t,r c cr]] w λe D=>p4 w (c1 g.arcs s t) e D:=by
 obtain⟨cl,iR⟩:=al (c1 g.arcs s t);rw[<-iR] at hE⊢;obtain⟨bk,el⟩:=al w.heap.size;obtain⟨bh,dW⟩:=al (bk+1);obtain⟨ba,cg⟩:=al ((w.alloc (an #[r c dF,r c s,r c t,r c cr] 50)).alloc (an #[r c 0,r c 0,E T 0 0,E T 0 0] 45));have ck:=oQ cg;have k3:V ba bk #[r c dF,r c s,r c t,r c cr] 50:=by rw[cg,el];exact(V.new _ _ _ _).alloc _
 have k4:V ba bh #[r c 0,r c 0,E T 0 0,E T 0 0] 45:=by
  have k:=V.new (w.alloc (an #[r c dF,r c s,r c t,r c cr] 50)) #[r c 0,r c 0,E T 0 0,E T 0 0] 45 (0,0);rw[d8] at k;rw[cg,dW,el];exact k
 have bC:aM (∀u,ae ba u->u.cell? (B df 0)=A (J af 0)/\u.cell? (B df 1)=A (J bE 0)/\u.cell? (B bk 0)=A (r c dF)/\u.cell? (B bk 1)=A (r c s)/\u.cell? (B bk 2)=A (r c t)/\u.cell? (B bk 3)=A (r c cr)):=λu Z=>by
  have q:=hb.aq (ck.next' Z);have bm:=k3.aq Z;exact⟨q.cell 0,q.cell 1,bm.cell 0,bm.cell 1,bm.cell 2,bm.cell 3⟩
 have rC:=I (λu (Z:ae ba u)=>hE u (ck.next' Z));have q8:=I (λu (Z:ae ba u)=>k4.aq Z);have dh:=db ck (show w.heap.size<=bh by omega);have h4:=I cg;clear cg iR;go_in;go_wp2_with fail;rw[<-h4.o,<-el,<-dW];clear el dW;refine pF 12 bC.o λdV dz ax=>?_;repeat first|refine fS ?_|refine ea ?_
 refine yI [9,10,11] (λoA gy tu hh u=>match oA with
  |9=>∃(p1:Option cp) (b2:Nat) (aV:Nat) (p2:Option cp) (cm:Nat) (bb:Nat) (a8:Option cp) (bt:Nat) (bp:Nat),gy=b8 #[aZ #[r c (i0 cl),r c (i1 cl),E p1 b2 aV,E p2 cm bb],E a8 bt bp]
  |10=>∃(p1:Option cp) (b2:Nat) (aV:Nat) (p2:Option cp) (cm:Nat) (bb:Nat),gy=aZ #[r c (i0 cl),r c (i1 cl),E p1 b2 aV,E p2 cm bb]
  |11=>∃(a8:Option cp) (bt:Nat) (bp:Nat),gy=E a8 bt bp
  |_=>True) (eF:=2) ?_ (λD bU=>bC.o _ (dz.next' bU)) ?_ (λdZ jZ ia u hb dK mR=>?_)
 ·intro oA gy tu hh iV j' ah hb _;try dsimp only at ah⊢
  split at ah
  ·obtain⟨p1,b2,aV,p2,cm,bb,a8,bt,bp,e⟩:=ah;exact⟨p1,b2,aV,p2,cm,bb,a8,bt,bp,e⟩
  ·obtain⟨p1,b2,aV,p2,cm,bb,e⟩:=ah;exact⟨p1,b2,aV,p2,cm,bb,e⟩
  ·obtain⟨a8,bt,bp,e⟩:=ah;exact⟨a8,bt,bp,e⟩
  ·trivial
 ·intro dO ag fj dZ jZ ia hH u hp fP hF;simp only[gg,iS,or_false] at ag;have aL:=I (dz.next' hF.below);rcases ag with rfl|rfl|rfl
  ·have uP:hH[9]? =A (J af 0):=hF.base fP 9;have t13:hH[13]? =A (J bE 0):=hF.base fP 13;have t14:hH[14]? =A (aZ #[r c dF,r c s,r c t,r c cr]):=hF.base fP 14;refine e3 79 #[J af 0,J bE 0,aZ #[r c dF,r c s,r c t,r c cr]] (rC.o u aL.o) ?_;rintro e cz ⟨p1,b2,aV,p2,cm,bb,a8,bt,bp,rfl,hb⟩;refine⟨_,rfl,?_⟩;have hf:True:=trivial;exact⟨_,rfl,hb,p1,b2,aV,p2,cm,bb,a8,bt,bp,rfl⟩
  ·obtain⟨t15,⟨p1,b2,aV,p2,cm,bb,a8,bt,bp,vJ⟩,_⟩:=hF.jV hp 9 15;rw[vJ] at t15;exact gD (aZ #[r c (i0 cl),r c (i1 cl),E p1 b2 aV,E p2 cm bb]) u ⟨_,rfl,bx _ _,p1,b2,aV,p2,cm,bb,rfl⟩
  ·obtain⟨t15,⟨p1,b2,aV,p2,cm,bb,a8,bt,bp,vJ⟩,_⟩:=hF.jV hp 9 15;rw[vJ] at t15;exact gD (E a8 bt bp) u ⟨_,rfl,bx _ _,a8,bt,bp,rfl⟩
 obtain⟨⟨ayJ,ayK,ayL,ayM,ayN,ayO,ayP,ayQ,ayR,om⟩,_⟩:=dK 9 a3;obtain⟨⟨p1,b2,aV,p2,cm,bb,EW⟩,_⟩:=dK 10 a3;obtain⟨⟨a8,bt,bp,vH⟩,_⟩:=dK 11 a3;rw[om,EW,vH];have aL:=I (dz.next' hb);have k4:=q8.o u aL.o;have gc:=aR k4 0;have f8:=aR k4 1;have h7:=aR k4 2;have oq:=aR k4 3;have h':=jw k4;have zb:=h' 0;have g':=h' 1;have iE:=h' 2;have jx:=h' 3;obtain⟨eo,iz⟩:=al ((((u.setCell (B bh 0) (r c (i0 cl))).setCell (B bh 1) (r c (i1 cl))).setCell (B bh 2) (E p1 b2 aV)).setCell (B bh 3) (E p2 cm bb));have k:=(((k4.set 0 (r c (i0 cl))).set 1 (r c (i1 cl))).set 2 (E p1 b2 aV)).set 3 (E p2 cm bb);have lL:ae w eo:=by
  rw[iz];exact(((((dh.o.1.next' aL.o).setCell (p:=B bh 0) dh.o.2 _).setCell (p:=B bh 1) dh.o.2 _).setCell (p:=B bh 2) dh.o.2 _).setCell (p:=B bh 3) dh.o.2 _)
 refine dJ 12 ?_;refine lG eo ?_ (he:=by rw[iz];go_simp);rw[<-iz] at k;clear iz;refine⟨gj,?_⟩;refine kr 13 (E a8 bt bp) eo ?_;refine fc ?_;go_wp2_with fail;have r0:=k.cell 0;have r1:=k.cell 1;have r2:=k.cell 2;have eC:=k.cell 3;refine gh (v:=b8 #[aZ #[r c (i0 cl),r c (i1 cl),E p1 b2 aV,E p2 cm bb],E a8 bt bp]) (by simp at r0 r1 r2 eC;simp[gq,results78,go_sem,r0,r1,r2,eC]) rfl ?_;exact⟨p1,b2,aV,p2,cm,bb,a8,bt,bp,rfl,lL⟩
theorem ag3 {af:Nat} {g:Raw} {s t:Nat} {gv:Option cp} {dk du:Nat} (hb:V w df #[J af 0,a6 gv,J dk 0,J du 0] 69) (hE:∀u,ae w u->aE aa 72 #[J af 0,a6 gv,aZ #[J dk 0,J du 0],aZ #[r c dF,r c s,r c t,r c cr]] u λe D=>p4 u (c1 g.arcs s t) e D):aE aa 71 #[J df 0,aZ #[r c dF,r c s,r c t,r c cr]] w λe D=>p4 w (c1 g.arcs s t) e D:=by
 obtain⟨cl,iR⟩:=al (c1 g.arcs s t);rw[<-iR] at hE⊢;obtain⟨bk,el⟩:=al w.heap.size;obtain⟨bh,dW⟩:=al (bk+1);obtain⟨ba,cg⟩:=al ((w.alloc (an #[r c dF,r c s,r c t,r c cr] 50)).alloc (an #[r c 0,r c 0,E T 0 0,E T 0 0] 45));have ck:=oQ cg;have k3:V ba bk #[r c dF,r c s,r c t,r c cr] 50:=by rw[cg,el];exact(V.new _ _ _ _).alloc _
 have k4:V ba bh #[r c 0,r c 0,E T 0 0,E T 0 0] 45:=by
  have k:=V.new (w.alloc (an #[r c dF,r c s,r c t,r c cr] 50)) #[r c 0,r c 0,E T 0 0,E T 0 0] 45 (0,0);rw[d8] at k;rw[cg,dW,el];exact k
 have bC:aM (∀u,ae ba u->u.cell? (B df 0)=A (J af 0)/\u.cell? (B df 1)=A (a6 gv)/\u.cell? (B df 2)=A (J dk 0)/\u.cell? (B df 3)=A (J du 0)/\u.cell? (B bk 0)=A (r c dF)/\u.cell? (B bk 1)=A (r c s)/\u.cell? (B bk 2)=A (r c t)/\u.cell? (B bk 3)=A (r c cr)):=λu Z=>by
  have q:=hb.aq (ck.next' Z);have bm:=k3.aq Z;exact⟨q.cell 0,q.cell 1,q.cell 2,q.cell 3,bm.cell 0,bm.cell 1,bm.cell 2,bm.cell 3⟩
 have rC:=I (λu (Z:ae ba u)=>hE u (ck.next' Z));have q8:=I (λu (Z:ae ba u)=>k4.aq Z);have dh:=db ck (show w.heap.size<=bh by omega);have h4:=I cg;clear cg iR;go_in;go_wp2_with fail;rw[<-h4.o,<-el,<-dW];clear el dW;refine pF 21 bC.o λdV dz ax=>?_;repeat first|refine fS ?_|refine ea ?_
 refine yI [16,18,19,20] (λoA gy tu hh u=>match oA with
  |16=>gy=aZ #[a6 (A ⟨dk,0,T⟩),a6 (A ⟨du,0,T⟩)]
  |18=>∃(p1:Option cp) (b2:Nat) (aV:Nat) (p2:Option cp) (cm:Nat) (bb:Nat) (a8:Option cp) (bt:Nat) (bp:Nat),gy=b8 #[aZ #[r c (i0 cl),r c (i1 cl),E p1 b2 aV,E p2 cm bb],E a8 bt bp]
  |19=>∃(p1:Option cp) (b2:Nat) (aV:Nat) (p2:Option cp) (cm:Nat) (bb:Nat),gy=aZ #[r c (i0 cl),r c (i1 cl),E p1 b2 aV,E p2 cm bb]
  |20=>∃(a8:Option cp) (bt:Nat) (bp:Nat),gy=E a8 bt bp
  |_=>True) (eF:=2) ?_ (λD bU=>bC.o _ (dz.next' bU)) ?_ (λdZ jZ ia u hb dK mR=>?_)
 ·intro oA gy tu hh iV j' ah hb _;try dsimp only at ah⊢
  split at ah
  ·exact ah
  ·obtain⟨p1,b2,aV,p2,cm,bb,a8,bt,bp,e⟩:=ah;exact⟨p1,b2,aV,p2,cm,bb,a8,bt,bp,e⟩
  ·obtain⟨p1,b2,aV,p2,cm,bb,e⟩:=ah;exact⟨p1,b2,aV,p2,cm,bb,e⟩
  ·obtain⟨a8,bt,bp,e⟩:=ah;exact⟨a8,bt,bp,e⟩
  ·trivial
 ·intro dO ag fj dZ jZ ia hH u hp fP hF;simp only[gg,iS,or_false] at ag;have aL:=I (dz.next' hF.below);rcases ag with rfl|rfl|rfl|rfl
  ·have t17:hH[17]? =A (J dk 0):=hF.base fP 17;have t21:hH[21]? =A (J du 0):=hF.base fP 21;exact gD (aZ #[J dk 0,J du 0]) u ⟨_,rfl,bx _ _,rfl⟩
  ·have uP:hH[9]? =A (J af 0):=hF.base fP 9;have t13:hH[13]? =A (a6 gv):=hF.base fP 13;obtain⟨t22,Wa,_⟩:=hF.jV hp 16 22;rw[show dZ 16=_ from Wa] at t22;have t23:hH[23]? =A (aZ #[r c dF,r c s,r c t,r c cr]):=hF.base fP 23;refine e3 72 #[J af 0,a6 gv,aZ #[J dk 0,J du 0],aZ #[r c dF,r c s,r c t,r c cr]] (rC.o u aL.o) ?_;rintro e cz ⟨p1,b2,aV,p2,cm,bb,a8,bt,bp,rfl,hb⟩;refine⟨_,rfl,?_⟩;have hf:True:=trivial;exact⟨_,rfl,hb,p1,b2,aV,p2,cm,bb,a8,bt,bp,rfl⟩
  ·obtain⟨t24,⟨p1,b2,aV,p2,cm,bb,a8,bt,bp,Wz⟩,_⟩:=hF.jV hp 18 24;rw[Wz] at t24;exact gD (aZ #[r c (i0 cl),r c (i1 cl),E p1 b2 aV,E p2 cm bb]) u ⟨_,rfl,bx _ _,p1,b2,aV,p2,cm,bb,rfl⟩
  ·obtain⟨t24,⟨p1,b2,aV,p2,cm,bb,a8,bt,bp,Wz⟩,_⟩:=hF.jV hp 18 24;rw[Wz] at t24;exact gD (E a8 bt bp) u ⟨_,rfl,bx _ _,a8,bt,bp,rfl⟩
 have KF:dZ 16=_:=(dK 16 a3).1;obtain⟨⟨aF5,aF6,aF7,aF8,aF9,aF_,aF',aGa,aGb,U2⟩,_⟩:=dK 18 a3;obtain⟨⟨p1,b2,aV,p2,cm,bb,KG⟩,_⟩:=dK 19 a3;obtain⟨⟨a8,bt,bp,WA⟩,_⟩:=dK 20 a3;rw[KF,U2,KG,WA];have aL:=I (dz.next' hb);have k4:=q8.o u aL.o;have gc:=aR k4 0;have f8:=aR k4 1;have h7:=aR k4 2;have oq:=aR k4 3;have h':=jw k4;have zb:=h' 0;have g':=h' 1;have iE:=h' 2;have jx:=h' 3;obtain⟨eo,iz⟩:=al ((((u.setCell (B bh 0) (r c (i0 cl))).setCell (B bh 1) (r c (i1 cl))).setCell (B bh 2) (E p1 b2 aV)).setCell (B bh 3) (E p2 cm bb));have k:=(((k4.set 0 (r c (i0 cl))).set 1 (r c (i1 cl))).set 2 (E p1 b2 aV)).set 3 (E p2 cm bb);have lL:ae w eo:=by
  rw[iz];exact(((((dh.o.1.next' aL.o).setCell (p:=B bh 0) dh.o.2 _).setCell (p:=B bh 1) dh.o.2 _).setCell (p:=B bh 2) dh.o.2 _).setCell (p:=B bh 3) dh.o.2 _)
 refine dJ 21 ?_;refine lG eo ?_ (he:=by rw[iz];go_simp);rw[<-iz] at k;clear iz;refine⟨gj,?_⟩;refine kr 22 (E a8 bt bp) eo ?_;refine fc ?_;go_wp2_with fail;have r0:=k.cell 0;have r1:=k.cell 1;have r2:=k.cell 2;have eC:=k.cell 3;refine gh (v:=b8 #[aZ #[r c (i0 cl),r c (i1 cl),E p1 b2 aV,E p2 cm bb],E a8 bt bp]) (by simp at r0 r1 r2 eC;simp[gq,results71,go_sem,r0,r1,r2,eC]) rfl ?_;exact⟨p1,b2,aV,p2,cm,bb,a8,bt,bp,rfl,lL⟩
theorem ag4 {af a':Nat} {g:Raw} {s t:Nat} {gv:Option cp} (hb:V w df #[J af 0,a6 gv,a6 ga,a6 eG] 69) lO (jm:∀args w,(gM lO args).run aa w= .ok (.enter lO args) w) (h2:V w a' #[.func (.func lO) #[] #[]] 142)
 (hE:∀u,ae w u->aE aa lO #[J af 0,aZ #[r c s,r c t,E T 0 0,E T 0 0]] u λe D=>HA u (c1 g.arcs s t) e D):
 aE aa 125 #[J df 0,aZ #[r c dF,r c s,r c t,r c cr],J a' 0] w λe D=>p4 w (c1 g.arcs s t) e D:=by
 obtain⟨cl,iR⟩:=al (c1 g.arcs s t);rw[<-iR] at hE⊢;obtain⟨bh,dW⟩:=al w.heap.size;obtain⟨bF,eV⟩:=al (bh+1);obtain⟨ba,cg⟩:=al ((w.alloc (an #[r c dF,r c s,r c t,r c cr] 50)).alloc (an #[r c 0,r c 0,E T 0 0,E T 0 0] 45));have ck:=oQ cg;have k4:V ba bh #[r c dF,r c s,r c t,r c cr] 50:=by rw[cg,dW];exact(V.new _ _ _ _).alloc _
 have k5:V ba bF #[r c 0,r c 0,E T 0 0,E T 0 0] 45:=by
  have k:=V.new (w.alloc (an #[r c dF,r c s,r c t,r c cr] 50)) #[r c 0,r c 0,E T 0 0,E T 0 0] 45 (0,0);rw[d8] at k;rw[cg,eV,dW];exact k
 have bC:aM (∀u,ae ba u->u.cell? (B a' 0)=A (.func (.func lO) #[] #[])/\u.cell? (B df 0)=A (J af 0)/\u.cell? (B bh 1)=A (r c s)/\u.cell? (B bh 2)=A (r c t)):=λu Z=>⟨(h2.aq (ck.next' Z)).cell 0,(hb.aq (ck.next' Z)).cell 0,(k4.aq Z).cell 1,(k4.aq Z).cell 2⟩;have rC:=I (λu (Z:ae ba u)=>hE u (ck.next' Z));have Fq:=I (λu (Z:ae ba u)=>k5.aq Z);have dh:=db ck (show w.heap.size<=bF by omega);have h4:=I cg;clear cg iR;go_in;go_wp2_with fail;rw[<-h4.o,<-dW,<-eV];clear dW eV;refine pF 15 bC.o λdV dz ax=>?_;repeat first|refine fS ?_|refine ea ?_
 refine RI [9,10,11,12,14] 13 (λoA gy tu hh u=>match oA with
  |9=>gy=aZ #[r c s,r c t,E T 0 0,E T 0 0]
  |10=>∃(c3:Option cp) (c4:Nat) (c5:Nat) (a8:Option cp) (bt:Nat) (bp:Nat),gy=b8 #[aZ #[r c cl,E c3 c4 c5,E a8 bt bp],r c 0]
  |11=>∃(c3:Option cp) (c4:Nat) (c5:Nat) (a8:Option cp) (bt:Nat) (bp:Nat),gy=b8 #[aZ #[r c cl,E c3 c4 c5,E a8 bt bp],r c 0]
  |12=>∃(c3:Option cp) (c4:Nat) (c5:Nat) (a8:Option cp) (bt:Nat) (bp:Nat),gy=aZ #[r c cl,E c3 c4 c5,E a8 bt bp]
  |14=>∃(b_:Nat),gy=a6 (A ⟨b_,0,T⟩)/\(V u b_ #[r c 0,E T 0 0,E T 0 0] 202 (0,0)/\ba.heap.size<=b_)
  |13=>gy=r c 0
  |_=>True) (eF:=2) ?_ (λD bU=>bC.o _ (dz.next' bU)) ?_ (λdZ jZ ia hH u hF=>?_) (λdZ jZ ia u hb dK mR=>?_)
 ·intro oA gy tu hh iV j' ah hb _;try dsimp only at ah⊢
  split at ah
  ·exact ah
  ·obtain⟨c3,c4,c5,a8,bt,bp,e⟩:=ah;exact⟨c3,c4,c5,a8,bt,bp,e⟩
  ·obtain⟨c3,c4,c5,a8,bt,bp,e⟩:=ah;exact⟨c3,c4,c5,a8,bt,bp,e⟩
  ·obtain⟨c3,c4,c5,a8,bt,bp,e⟩:=ah;exact⟨c3,c4,c5,a8,bt,bp,e⟩
  ·obtain⟨b_,e,Fw⟩:=ah;exact⟨b_,e,⟨Fw.1.aq hb,Fw.2⟩⟩
  ·exact ah
  ·trivial
 ·intro dO ag fj dZ jZ ia hH u hp fP hF;simp only[gg,iS,or_false,fW,f1] at ag;have aL:=I (dz.next' hF.below);rcases ag with rfl|rfl|rfl|rfl|rfl|rfl
  ·have t16:hH[16]? =A (r c s):=hF.base fP 16;have t18:hH[18]? =A (r c t):=hF.base fP 18;exact gD (aZ #[r c s,r c t,E T 0 0,E T 0 0]) u ⟨_,rfl,bx _ _,rfl⟩
  ·have t10:hH[10]? =A (.func (.func lO) #[] #[]):=hF.base fP 10;have t14:hH[14]? =A (J af 0):=hF.base fP 14;obtain⟨t19,KG,_⟩:=hF.jV hp 9 19;rw[show dZ 9=_ from KG] at t19;refine e3 lO #[J af 0,aZ #[r c s,r c t,E T 0 0,E T 0 0]] (rC.o u aL.o) ?_;rintro e cz ⟨c3,c4,c5,a8,bt,bp,rfl,hb⟩;refine⟨_,rfl,?_⟩;have hf:True:=trivial;exact⟨_,rfl,hb,c3,c4,c5,a8,bt,bp,rfl⟩
  ·obtain⟨t20,⟨c3,c4,c5,a8,bt,bp,WA⟩,_⟩:=hF.jV hp 10 20;rw[WA] at t20;exact gD (b8 #[aZ #[r c cl,E c3 c4 c5,E a8 bt bp],r c 0]) u ⟨_,rfl,bx _ _,c3,c4,c5,a8,bt,bp,rfl⟩
  ·obtain⟨uP,⟨c3,c4,c5,a8,bt,bp,om⟩,_⟩:=hF.jV hp 11 9;rw[om] at uP;exact gD (aZ #[r c cl,E c3 c4 c5,E a8 bt bp]) u ⟨_,rfl,bx _ _,c3,c4,c5,a8,bt,bp,rfl⟩
  ·have hb:ae u (u.alloc (an #[r c 0,E T 0 0,E T 0 0] 202)):=fb;have hf:V (u.alloc (an #[r c 0,E T 0 0,E T 0 0] 202)) u.heap.size #[r c 0,E T 0 0,E T 0 0] 202 (0,0)/\ba.heap.size<=u.heap.size:=⟨V.new _ _ _ _,aL.o.size⟩;refine gD (J u.heap.size 0) (u.alloc (an #[r c 0,E T 0 0,E T 0 0] 202)) ?_;exact⟨_,rfl,hb,_,rfl,hf⟩
  ·obtain⟨uP,⟨c3,c4,c5,a8,bt,bp,om⟩,_⟩:=hF.jV hp 11 9;rw[om] at uP;exact gD (r c 0) u ⟨_,rfl,bx _ _,rfl⟩
 ·obtain⟨uP,⟨c3,c4,c5,a8,bt,bp,om⟩,_⟩:=hF.own 11 a3;rw[om] at uP;have uP:hH[9]? =_:=uP;exact⟨_,λw=>⟨by rfl,by go_simp;try rfl⟩,rfl⟩
 have om:dZ 9=_:=(dK 9 a3).1;obtain⟨⟨aGc,aGd,aGe,aGf,aGg,aGh,EW⟩,_⟩:=dK 10 a3;obtain⟨⟨ar_,ar',asa,asb,asc,asd,vH⟩,_⟩:=dK 11 a3;obtain⟨⟨c3,c4,c5,a8,bt,bp,AQ⟩,_⟩:=dK 12 a3;obtain⟨⟨b_,wT,Fw⟩,_⟩:=dK 14 a3;have AR:dZ 13=_:=(dK 13 a3).1;rw[om,EW,vH,AQ,wT,AR];have aL:=I (dz.next' hb);have k10:=Fw.1;have fU:=aR k10 0;have fO:=aR k10 1;have fD:=aR k10 2;have gx:=jw k10;have j5:=gx 0;have f6:=gx 1;have eF:=gx 2;obtain⟨eo,iz⟩:=al (((u.setCell (B b_ 0) (r c cl)).setCell (B b_ 1) (E c3 c4 c5)).setCell (B b_ 2) (E a8 bt bp));have C9:=((k10.set 0 (r c cl)).set 1 (E c3 c4 c5)).set 2 (E a8 bt bp);have lL:ae ba eo:=by
  rw[iz];exact((aL.o.setCell (p:=B b_ 0) Fw.2 _).setCell (p:=B b_ 1) Fw.2 _).setCell (p:=B b_ 2) Fw.2 _
 refine dJ 15 ?_;refine lG eo ?_ (he:=by rw[iz];go_simp);rw[<-iz] at C9;clear iz;refine⟨gj,?_⟩;refine kr 16 (r c 0) eo ?_;refine fc ?_;have e0:=C9.cell 0;simp at e0;have k5:=Fq.o eo lL;have gc:=aR k5 0;have f8:=aR k5 1;have h7:=aR k5 2;have oq:=aR k5 3;have h':=jw k5;have zb:=h' 0;have g':=h' 1;have iE:=h' 2;have jx:=h' 3;have ss:aM (∀u,ae eo u->u.cell? (B b_ 0)=A (r c cl)/\u.cell? (B b_ 1)=A (E c3 c4 c5)/\u.cell? (B b_ 2)=A (E a8 bt bp)):=λu Z=>⟨(C9.aq Z).cell 0,(C9.aq Z).cell 1,(C9.aq Z).cell 2⟩;have Kw:=I (dh.o.1.next' lL);have b9:bF≠b_:=λe=>by
  rw[e] at k5;exact absurd (er k5 C9) bj
 by_cases se:72057594037927936<=cl
 ·go_wp2_with fail;refine jj (S:=λD=>D.cell? (B b_ 0)=A (r c cl)/\D.cell? (B b_ 1)=A (E c3 c4 c5)/\D.cell? (B b_ 2)=A (E a8 bt bp)) rfl ?_;have ax:=ss.o eo.drew (bx _ _).drew;change gV _ _ _ _ _ 5 _ _ eo.drew;refine eZ 0 (aZ #[r c 20,r c 0,E T 0 0,E T 0 0]) ax ?_;refine eZ 1 (J b_ 2) ax ?_;refine eZ 2 (E a8 bt bp) ax ?_;obtain⟨fd,j0⟩:=al ((((eo.drew.setCell (B bF 0) (r c 20)).setCell (B bF 1) (r c 0)).setCell (B bF 2) (E T 0 0)).setCell (B bF 3) (E T 0 0));have WB:V eo.drew bF #[r c 0,r c 0,E T 0 0,E T 0 0] 45:=k5;have k:=(((WB.set 0 (r c 20)).set 1 (r c 0)).set 2 (E T 0 0)).set 3 (E T 0 0);rw[<-j0] at k;have oo:ae w fd:=by rw[j0];exact((((Kw.o.drew.setCell (p:=B bF 0) dh.o.2 _).setCell (p:=B bF 1) dh.o.2 _).setCell (p:=B bF 2) dh.o.2 _).setCell (p:=B bF 3) dh.o.2 _)
  have lA:fd.heap[b_]? =eo.heap[b_]? :=by rw[j0];exact(HB eo bF b_ b9 _ _ _ _)
  refine fs 3 ?_;refine AP (D:=fd) rfl rfl (by rfl) (by rw[j0];go_simp) ?_;have gS:V fd b_ _ _ _:=lA.trans C9;have jI:fd.cell? (B b_ 0)=A (r c cl)/\fd.cell? (B b_ 1)=A (E c3 c4 c5)/\fd.cell? (B b_ 2)=A (E a8 bt bp):=⟨gS.cell 0,gS.cell 1,gS.cell 2⟩;refine⟨jI,?_⟩;clear j0;refine fs 4 ?_;refine Dw (v:=E a8 bt bp) (D:=fd) rfl rfl (by rfl) (by go_simp) ?_;refine⟨jI,?_⟩;simp only[bN,bM,bO];refine i4 ?_;go_wp2_with fail;have r0:=k.cell 0;have r1:=k.cell 1;have r2:=k.cell 2;have eC:=k.cell 3;refine gh (v:=b8 #[aZ #[r c 20,r c 0,E T 0 0,E T 0 0],E a8 bt bp]) (by simp at r0 r1 r2 eC;simp[gq,aCt,go_sem,r0,r1,r2,eC]) rfl ?_;refine⟨T,0,0,T,0,0,a8,bt,bp,?_,oo⟩;unfold i0 i1;rw[if_pos se,if_pos se]
 ·have Kx:cl<72057594037927936:=G;go_wp2_with fail;refine jj (S:=λD=>D.cell? (B b_ 0)=A (r c cl)/\D.cell? (B b_ 1)=A (E c3 c4 c5)/\D.cell? (B b_ 2)=A (E a8 bt bp)) rfl ?_;have ax:=ss.o eo.drew (bx _ _).drew;change gV _ _ _ _ _ 9 _ _ eo.drew;refine eZ 0 (J b_ 0) ax ?_;refine eZ 1 (r c cl) ax ?_;refine eZ 2 (J b_ 1) ax ?_;refine eZ 3 (E c3 c4 c5) ax ?_;refine eZ 4 (aZ #[r c 0,r c cl,E c3 c4 c5,E T 0 0]) ax ?_;refine eZ 5 (J b_ 2) ax ?_;refine eZ 6 (E a8 bt bp) ax ?_;obtain⟨fd,j0⟩:=al ((((eo.drew.setCell (B bF 0) (r c 0)).setCell (B bF 1) (r c cl)).setCell (B bF 2) (E c3 c4 c5)).setCell (B bF 3) (E T 0 0));have WB:V eo.drew bF #[r c 0,r c 0,E T 0 0,E T 0 0] 45:=k5;have k:=(((WB.set 0 (r c 0)).set 1 (r c cl)).set 2 (E c3 c4 c5)).set 3 (E T 0 0);rw[<-j0] at k;have oo:ae w fd:=by rw[j0];exact((((Kw.o.drew.setCell (p:=B bF 0) dh.o.2 _).setCell (p:=B bF 1) dh.o.2 _).setCell (p:=B bF 2) dh.o.2 _).setCell (p:=B bF 3) dh.o.2 _)
  have lA:fd.heap[b_]? =eo.heap[b_]? :=by rw[j0];exact(HB eo bF b_ b9 _ _ _ _)
  refine fs 7 ?_;refine AP (D:=fd) rfl rfl (by rfl) (by rw[j0];go_simp) ?_;have gS:V fd b_ _ _ _:=lA.trans C9;have jI:fd.cell? (B b_ 0)=A (r c cl)/\fd.cell? (B b_ 1)=A (E c3 c4 c5)/\fd.cell? (B b_ 2)=A (E a8 bt bp):=⟨gS.cell 0,gS.cell 1,gS.cell 2⟩;refine⟨jI,?_⟩;clear j0;refine fs 8 ?_;refine Dw (v:=E a8 bt bp) (D:=fd) rfl rfl (by rfl) (by go_simp) ?_;refine⟨jI,?_⟩;simp only[bN,bM,bO];refine i4 ?_;go_wp2_with fail;have r0:=k.cell 0;have r1:=k.cell 1;have r2:=k.cell 2;have eC:=k.cell 3;refine gh (v:=b8 #[aZ #[r c 0,r c cl,E c3 c4 c5,E T 0 0],E a8 bt bp]) (by simp at r0 r1 r2 eC;simp[gq,aCt,go_sem,r0,r1,r2,eC]) rfl ?_;refine⟨c3,c4,c5,T,0,0,a8,bt,bp,?_,oo⟩;unfold i0 i1;rw[if_neg G,if_neg G]
theorem ag5 (lO:Nat) (w:O):aE aa 73 #[.func (.func lO) #[] #[]] w λe D=>e=au (.func (.func 125) #[] #[J w.heap.size 0])/\D=w.alloc (an #[.func (.func lO) #[] #[]] 142):=by
 have g_:=@hJ aa;go_in;go_wp2_with fail;go_ret;exact⟨rfl,rfl⟩
theorem Fx {g:Raw} {N:Nat} {b3 bJ:Bool} (h:rj w df g N b3 bJ) (qa nC:Bool) (fn:Fn) (f6 eF:Array ac):aE aa 31 #[aZ #[aA qa,aA nC,.func fn f6 eF],J df 0] w λe D=>e=au (aA ((!qa||b3)&&(!nC||bJ)))/\ae w D:=by
 obtain⟨_,_,af,gv,ga,eG,hb,_,ht,aP⟩:=h;obtain⟨a',eB⟩:=al w.heap.size;obtain⟨ay,bA⟩:=al (w.alloc (an #[aA qa,aA nC,.func fn f6 eF] 94));have aX:=dx bA;have k2:=eK bA eB;have cX:=db bA eB;clear bA eB;cases qa<;>cases nC<;>rcases ht with⟨rfl,rfl⟩|⟨rfl,bE,b0,rfl,_⟩<;>rcases aP with⟨rfl,rfl,rfl⟩|⟨rfl,dk,du,of,many,bs,l,rfl,rfl,_⟩
 ·have bR:=k2.cell 0;have aV:=k2.cell 1;have bb:=(hb.aq aX).cell 1;have ch:=(hb.aq aX).cell 2;simp only[la,py,pz] at bR aV bb ch;rw[cX.o.1,cX.o.2] at bR aV;rw[cX.o.1] at bb ch;go_in;go_wp2_with fail;go_ret;rw[<-cX.o.1];exact⟨rfl,aX⟩
 ·have bR:=k2.cell 0;have aV:=k2.cell 1;have bb:=(hb.aq aX).cell 1;have ch:=(hb.aq aX).cell 2;simp only[la,py,pz] at bR aV bb ch;rw[cX.o.1,cX.o.2] at bR aV;rw[cX.o.1] at bb ch;go_in;go_wp2_with fail;go_ret;rw[<-cX.o.1];exact⟨rfl,aX⟩
 ·have bR:=k2.cell 0;have aV:=k2.cell 1;have bb:=(hb.aq aX).cell 1;have ch:=(hb.aq aX).cell 2;simp only[la,py,pz] at bR aV bb ch;rw[cX.o.1,cX.o.2] at bR aV;rw[cX.o.1] at bb ch;go_in;go_wp2_with fail;go_ret;rw[<-cX.o.1];exact⟨rfl,aX⟩
 ·have bR:=k2.cell 0;have aV:=k2.cell 1;have bb:=(hb.aq aX).cell 1;have ch:=(hb.aq aX).cell 2;simp only[la,py,pz] at bR aV bb ch;rw[cX.o.1,cX.o.2] at bR aV;rw[cX.o.1] at bb ch;go_in;go_wp2_with fail;go_ret;rw[<-cX.o.1];exact⟨rfl,aX⟩
 ·have bR:=k2.cell 0;have aV:=k2.cell 1;have bb:=(hb.aq aX).cell 1;have ch:=(hb.aq aX).cell 2;simp only[la,py,pz] at bR aV bb ch;rw[cX.o.1,cX.o.2] at bR aV;rw[cX.o.1] at bb ch;go_in;go_wp2_with fail;go_ret;rw[<-cX.o.1];exact⟨rfl,aX⟩
 ·have bR:=k2.cell 0;have aV:=k2.cell 1;have bb:=(hb.aq aX).cell 1;have ch:=(hb.aq aX).cell 2;simp only[la,py,pz] at bR aV bb ch;rw[cX.o.1,cX.o.2] at bR aV;rw[cX.o.1] at bb ch;go_in;go_wp2_with fail;go_ret;rw[<-cX.o.1];exact⟨rfl,aX⟩
 ·have bR:=k2.cell 0;have aV:=k2.cell 1;have bb:=(hb.aq aX).cell 1;have ch:=(hb.aq aX).cell 2;simp only[la,py,pz] at bR aV bb ch;rw[cX.o.1,cX.o.2] at bR aV;rw[cX.o.1] at bb ch;go_in;go_wp2_with fail;go_ret;rw[<-cX.o.1];exact⟨rfl,aX⟩
 ·have bR:=k2.cell 0;have aV:=k2.cell 1;have bb:=(hb.aq aX).cell 1;have ch:=(hb.aq aX).cell 2;simp only[la,py,pz] at bR aV bb ch;rw[cX.o.1,cX.o.2] at bR aV;rw[cX.o.1] at bb ch;go_in;go_wp2_with fail;go_ret;rw[<-cX.o.1];exact⟨rfl,aX⟩
 ·have bR:=k2.cell 0;have aV:=k2.cell 1;have bb:=(hb.aq aX).cell 1;have ch:=(hb.aq aX).cell 2;simp only[la,py,pz] at bR aV bb ch;rw[cX.o.1,cX.o.2] at bR aV;rw[cX.o.1] at bb ch;go_in;go_wp2_with fail;go_ret;rw[<-cX.o.1];exact⟨rfl,aX⟩
 ·have bR:=k2.cell 0;have aV:=k2.cell 1;have bb:=(hb.aq aX).cell 1;have ch:=(hb.aq aX).cell 2;simp only[la,py,pz] at bR aV bb ch;rw[cX.o.1,cX.o.2] at bR aV;rw[cX.o.1] at bb ch;go_in;go_wp2_with fail;go_ret;rw[<-cX.o.1];exact⟨rfl,aX⟩
 ·have bR:=k2.cell 0;have aV:=k2.cell 1;have bb:=(hb.aq aX).cell 1;have ch:=(hb.aq aX).cell 2;simp only[la,py,pz] at bR aV bb ch;rw[cX.o.1,cX.o.2] at bR aV;rw[cX.o.1] at bb ch;go_in;go_wp2_with fail;go_ret;rw[<-cX.o.1];exact⟨rfl,aX⟩
 ·have bR:=k2.cell 0;have aV:=k2.cell 1;have bb:=(hb.aq aX).cell 1;have ch:=(hb.aq aX).cell 2;simp only[la,py,pz] at bR aV bb ch;rw[cX.o.1,cX.o.2] at bR aV;rw[cX.o.1] at bb ch;go_in;go_wp2_with fail;go_ret;rw[<-cX.o.1];exact⟨rfl,aX⟩
 ·have bR:=k2.cell 0;have aV:=k2.cell 1;have bb:=(hb.aq aX).cell 1;have ch:=(hb.aq aX).cell 2;simp only[la,py,pz] at bR aV bb ch;rw[cX.o.1,cX.o.2] at bR aV;rw[cX.o.1] at bb ch;go_in;go_wp2_with fail;go_ret;rw[<-cX.o.1];exact⟨rfl,aX⟩
 ·have bR:=k2.cell 0;have aV:=k2.cell 1;have bb:=(hb.aq aX).cell 1;have ch:=(hb.aq aX).cell 2;simp only[la,py,pz] at bR aV bb ch;rw[cX.o.1,cX.o.2] at bR aV;rw[cX.o.1] at bb ch;go_in;go_wp2_with fail;go_ret;rw[<-cX.o.1];exact⟨rfl,aX⟩
 ·have bR:=k2.cell 0;have aV:=k2.cell 1;have bb:=(hb.aq aX).cell 1;have ch:=(hb.aq aX).cell 2;simp only[la,py,pz] at bR aV bb ch;rw[cX.o.1,cX.o.2] at bR aV;rw[cX.o.1] at bb ch;go_in;go_wp2_with fail;go_ret;rw[<-cX.o.1];exact⟨rfl,aX⟩
 ·have bR:=k2.cell 0;have aV:=k2.cell 1;have bb:=(hb.aq aX).cell 1;have ch:=(hb.aq aX).cell 2;simp only[la,py,pz] at bR aV bb ch;rw[cX.o.1,cX.o.2] at bR aV;rw[cX.o.1] at bb ch;go_in;go_wp2_with fail;go_ret;rw[<-cX.o.1];exact⟨rfl,aX⟩
end
end Go.Proofs.YtnmliebconiefaaGreatDoor
