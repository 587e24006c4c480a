/- Texts of TopTriangle's and TopMoved's walks, made small by a printer; no conditions. -/
import Derived.Test.YtnmliebconiefaaGreatDoorQ03
import Derived.RangeFuncWrites
import Derived.Maps.OwnIn
open Bool renaming false→ao,true→ad
open Go renaming Addr→cp,Boxed→yq,Calls→aE,CallsIn→ge,Loop→zz,TypeId→cY,Value→ac,World→O,callFunc→gM,goInt→sK,maxLen→ff
open Go.Builtin renaming append_→qN
open Go.Code renaming rangeFunc→Qe
open Go.Ending renaming returned→au
open Go.Fence renaming wide→dY
open Go.Instr renaming entryStore→xb,lookup→l',mapEntry→xa
open Go.IntKind renaming i64→c
open Go.Obj renaming cells→an,cells→Xi
open Go.Proofs.Tryz renaming prog→aa
open Go.RowKit renaming Below→bQ,intOf→cu
open Go.Value renaming agg→aZ,bool→aA,int→r,pointer→a6,slice→E,tuple→b8,oneCell'→v7,slice→iB
open List renaming range→m8
open Nat renaming reduceAdd→gA,reduceSub→g1
open Option renaming none→T,some→A
namespace Go.Proofs.YtnmliebconiefaaGreatDoor
open Go.RowKit Go.Shelf Go.Proofs.Tryz
set_option linter.all false
set_option maxRecDepth 100000
set_option maxHeartbeats 32000000
def aiD:=@Int.one_mul
def Bd:=@List.getElem_of_mem
def FT:=@Go.cell_one_new
def FU:=@Go.ownsRow_succ
def Md:=@Go.results_tmp
def XQ:=@Go.roundIn_of_wpIn
def FR:=@Go.wpListIn_append_own_at
variable {cs lb:Array ac} {aU:Bool} {R cU d found meet s t v x y:Int} {ob qp:Int → Option Int} {aG bL:List Bool} {aj m pi:List Int} {Q S:List bd} {c':List bw} {M N P a' aD aW aY af am b bE bn bs cc fe gf i k kU l n p q z:Nat} {fr:Nat × Nat} {hi:Nat → Prop} {D W ai bH u w wr:O} {eb:O → O → Prop} {dt:Obj} {a:Option cp} {g:Raw} {ep:Type} {bo cB cy gH:ac} {fz:bd → Int}
def Es {ep:Type} (n gf:Nat) (lb:Array ac) (jk:ep->Array ac) (eb:O->O->Prop) (b:Nat) (ce:List ep) (w:O):Prop:=
 ∀(l:Nat) (bG:List ep->O->Prop) (W:O),ae w W->(∀s Q C,bG s Q->ae Q C->bG s C)->(∀s Q v,bG s Q->bG s (Q.setCell (B b 0) v))->
  (∀pre x d9,bG pre d9->pre++[x]<+:ce->YieldAt dY (n-1) aa l (jk x) d9 λe W'=>e=au (aA ad)/\bG (pre++[x]) W'/\eb d9 W')->
  bG [] W->ge dY n aa gf (#[.func (.yield l) #[] #[]]++lb) W λe W'=>(∃v,e=au v)/\bG ce W'
theorem ao6 {g:Operand} {c7:Array Tmp} {assign body:Code} {bT:Exit->Act->O->Prop} {a:Act} (h1:1<=n) (hg:a.eval g= .func (.func gf) #[] lb)
 (jR:∀args w,(gM gf args).run aa w= .ok (.enter gf args) w) {jk:ep->Array ac} {ce:List ep} (hb:b<w.heap.size) (iQ:Es (n-1) gf lb jk eb b ce w)
 (lD:∀{Q ai C:O},eb Q ai->eb ai C->eb Q C) (hKb:∀(W:O) (l:Nat) (o dt:Obj),w.heap.size<=l->W.heap[l]? =A o->o.isCells=ao->eb W (W.putObj l dt)) (lc:∀x,(jk x).size=c7.size)
 (dp:List ep->O->Prop) (j6:∀s Q C,dp s Q->ae Q C->dp s C) (xu:∀s Q v,dp s Q->dp s (Q.setCell (B b 0) v)) (qm:∀s Q l (o dt:Obj),dp s Q->w.heap.size<=l->Q.heap[l]? =A o->o.isCells=ao->dp s (Q.putObj l dt)) (h0:dp [] w) (tR:ep->Act)
 (hassign:∀(l:Nat) (x:ep) (W:O) (aT:Act->O->Prop),aT (tR x) W->
  assign.wpIn (Fence.wide.inRound l) (n-1-1) aa (Exit.then aT (λ_ _ _=>False)) {tmps:=(c7.zip (jk x)).foldl (λt (p,v)=>t.setIfInBounds p v) a.tmps,defers:=[]} W)
 (hbody:∀(l:Nat) (pre:List ep) (x:ep) (W:O),dp pre W->pre++[x]<+:ce->body.wpIn (Fence.wide.inRound l) (n-1-1) aa (ownPostG w.heap.size eb dp (λ_ _ _=>False) (pre++[x]) W) (tR x) W)
 (hdone:∀(aF:Nat) (W:O),w.heap.size<=aF->dp ce W->W.heap[aF]? =A (.deferred (A []))->bT .normal {a with defers:={target:= .collected aF,args:=#[]}::a.defers} W):
 (Qe g c7 assign body).wpIn dY n aa bT a w:=by
 refine Qf λfn hfn=>?_;rw[show Fence.wide.round=T from rfl];obtain⟨hs,nz⟩:∃hs:LoopState->zz,hs=λst=>{state:=st,pending:=T,fn,tmps:=a.tmps,params:=c7,assign,body,defers:=w.heap.size}:=⟨_,rfl⟩;obtain⟨aI,hV⟩:=al ((w.alloc (.deferred (A []))).alloc (.loop (hs .ready)));have nA:ae w aI:=by rw[hV];exact((bx _ w).alloc (bY _) _).alloc a3 _
 have rc:aI.heap[w.heap.size+1]? =A (.loop (hs .ready)):=by
  rw[hV];have:=vY (w.alloc (.deferred (A []))) (.loop (hs .ready));rwa[d8] at this
 have l0:aI.heap[w.heap.size]? =A (.deferred (A [])):=by
  rw[hV];exact(px _ _ _ a3).trans (vY w _)
 refine⟨w.heap.size+1,[{target:= .collected w.heap.size,args:=#[]}],aI,{target:= .fn (.func gf) lb,args:=#[.func (.yield (w.heap.size+1)) #[] #[]]},aI,gf,
  #[.func (.yield (w.heap.size+1)) #[] #[]]++lb,aI,?_,?_,?_,?_,λ_=>h1,?_⟩
 ·rw[hV,nz];exact Qh _ _ _ _ _
 ·simp only[resolve,hg];simp[go_sem]
 ·exactλ_ _=>trivial
 ·simp[invoke,go_sem,jR]
 refine(iQ (w.heap.size+1) (λs W=>dp s W/\W.heap[w.heap.size+1]? =A (.loop (hs .ready))/\W.heap[w.heap.size]? =A (.deferred (A []))) aI nA (λs Q C aB ah=>⟨j6 s Q C aB.1 ah,?_,?_⟩) (λs Q v aB=>⟨xu s Q v aB.1,?_,?_⟩) ?_ ⟨j6 _ _ _ h0 nA,rc,l0⟩).mono ?_
 ·exact(ah.block _ (gU.1 aB.2.1).1).trans aB.2.1
 ·exact(ah.block _ (gU.1 aB.2.2).1).trans aB.2.2
 ·exact(d7 _ _ _ _ (show w.heap.size+1≠b by omega)).trans aB.2.1
 ·exact(d7 _ _ _ _ (show w.heap.size≠b by omega)).trans aB.2.2
 ·rintro pre x W ⟨ag,aw,K⟩ nJ;have a0:w.heap.size+1<W.heap.size:=(gU.1 aw).1;have az:=Qi (P:=aa) (args:=jk x) aw (by rw[nz];exact lc x);rw[nz] at az;refine⟨fn,_,assign,body,az,XQ hfn (hassign _ x W _ ⟨_,Qj aw (by rw[nz]),?_⟩)⟩;obtain⟨fK,nR⟩:∃fK,fK=W.putObj (w.heap.size+1) (.loop {hs .ready with state:= .busy}):=⟨_,rfl⟩;have o9:fK.heap[w.heap.size+1]? =A (.loop {hs .ready with state:= .busy}):=by rw[nR];exact A7 a0
  have e6:fK.heap[w.heap.size]? =A (.deferred (A [])):=by rw[nR];exact(jr G).trans K
  have JZ:dp pre fK:=by rw[nR];exact qm _ _ _ _ _ ag G aw rfl
  have pS:eb W fK:=by rw[nR];exact hKb _ _ _ _ G aw rfl
  rw[<-nR];refine Ia (hbody _ pre x fK JZ nJ) ?_;rintro e dX dI aP;cases e with
  |normal=>
   obtain⟨dv,zD,sP⟩:=aP;have kB:=dv.same _ _ G o9 rfl;have lh:=dv.same _ _ (bY _) e6 rfl;have ar:=Qk (P:=aa) T kB;have he:({({hs .ready with state:= .busy}:zz) with state:=if(T:Option Code).isNone then .ready else .done,pending:=T}:zz)=hs .ready:=by rw[nz];rfl
   rw[he] at ar;refine⟨_,_,ar,rfl,⟨qm _ _ _ _ _ sP G kB rfl,A7 (gU.1 kB).1,(jr G).trans lh⟩,lD (lD pS zD) (hKb _ _ _ _ G kB rfl)⟩
  |ret=>exact aP.2.elim
  |exit id=>exact aP.2.elim
  |goto t=>exact aP.2.elim
  |panic fp=>exact aP.elim
  |outgrown=>exact aP.elim
 ·rintro e fK ⟨⟨v,rfl⟩,ag,aw,K⟩;have ar:=LR (P:=aa) aw (by rw[nz];simp);exact⟨T,_,by rw[ar,nz],hdone _ _ (bY _) (qm _ _ _ _ _ ag G aw rfl) ((jr G).trans K)⟩
theorem J1 (h:jq w bE g N m) (aK:0<=v/\v<N):aE aa 230 #[J bE 0,r c v] w λe D=>e=au (aA ad)/\D=w:=by
 have c9:=I (En h);obtain⟨h0,h1⟩:=aK;clear h;go_in;go_wp2_with fail;refine eO c9.o ?_;go_wp2_with fail;go_ret;exact⟨rfl,rfl⟩
theorem acq (f t:Nat) (jm:∀args w,(gM f args).run aa w= .ok (.enter f args) w) (aDB:∀args w,(gM t args).run aa w= .ok (.enter t args) w) {i u z:Int} (h1:aE aa f #[J bE 0,r c i,r c v] w λe D=>e=au (r c x)/\D=w) (h2:aE aa f #[J bE 0,r c i,r c u] w λe D=>e=au (r c y)/\D=w) (ap:aE aa t #[r c x,r c y] w λe D=>e=au (r c z)/\ae w D):
 aE aa 277 #[.func (.func f) #[J bE 0] #[],.func (.func t) #[] #[],r c i,r c v,r c u] w λe D=>e=au (r c z)/\ae w D:=by
 have gX:=I h1;have fC:=I h2;have hQ:=I ap;clear h1 h2 ap;go_in;go_wp2_with fail;refine eO gX.o ?_;go_wp2_with fail;refine eO fC.o ?_;go_wp2_with fail;refine dl hQ.o λay hb=>?_;have bP:=I hb;clear hb;go_wp2_with fail;go_ret;exact⟨rfl,bP.o⟩
theorem ao8 (Q:List bd) (m v w:Int):ug Q m v w=if o0 (c1 Q v m) (c1 Q w m)<o0 (c1 Q m w) (c1 Q m v) then o0 (c1 Q m w) (c1 Q m v) else o0 (c1 Q v m) (c1 Q w m):=by
 unfold ug;split<;>omega
theorem TF (h:jq w bE g N m) {v u:Nat} (ag:i<m.length) (aK:v<N) (Z:u<N):
 aE aa 229 #[J bE 0,r c i,r c v,r c u] w λe D=>e=au (r c (ug g.arcs m[i] v u))/\ae w D:=by
 have Ha:=I (J1 h (v:=(v:Int)) ⟨G,G⟩);have Ob:=I (J1 h (v:=(u:Int)) ⟨G,G⟩);have eU:=I (Eo h);rw[ao8];obtain⟨x,ak⟩:=al (o0 (c1 g.arcs v m[i]) (c1 g.arcs u m[i]));obtain⟨y,az⟩:=al (o0 (c1 g.arcs m[i] u) (c1 g.arcs m[i] v));obtain⟨z,b5⟩:=al (if x<y then y else x);have cX:aM (∀D,ae w D->aE aa 277 #[.func (.func 278) #[J bE 0] #[],.func (.func 279) #[] #[],r c i,r c v,r c u] D λe aJ=>e=au (r c x)/\ae D aJ):=λD TG=>by
  have fx:=h.a_ (bu.bg TG);rw[ak];exact acq _ _ (fg func278 bq rfl) (fg func279 bq rfl) (acb fx ag aK) (acb fx ag Z) (Tz _ _ _)
 have mc:aM (∀D,ae w D->aE aa 277 #[.func (.func 280) #[J bE 0] #[],.func (.func 281) #[] #[],r c i,r c v,r c u] D λe aJ=>e=au (r c y)/\ae D aJ):=λD TG=>by
  have fx:=h.a_ (bu.bg TG);rw[az];exact acq _ _ (fg func280 bq rfl) (fg func281 bq rfl) (acc fx ag aK) (acc fx ag Z) (ab5 _ _ _)
 rw[<-ak,<-az,<-b5];have JB:(if x<y then y else x)=z:=b5.symm;obtain⟨M,dU⟩:=al m.length;rw[<-dU] at eU ag;have yP:(i:Int)<M:=G;have ve:=ew i;have g_:=@hJ aa;clear h ak az b5 dU;go_in;go_wp2_with fail;refine eO Ha.o ?_;go_wp2_with fail;refine eO Ob.o ?_;go_wp2_with fail;refine eU.o.mono ?_;rintro e ay ⟨a,R,rfl,_,aX⟩;have ft:=I aX;have acr:=I (cX.o ay aX);clear aX Ha Ob eU cX;go_wp2_with fail;refine dl acr.o λaJ a5=>?_;have dT:=I (ft.o.next' a5);have acs:=I (mc.o aJ dT.o);clear a5 acr mc;go_wp2_with fail;refine dl acs.o λba ck=>?_;have dh:=I (dT.o.next' ck);clear ck acs;go_wp2_with fail;go_ret;exact⟨rfl,dh.o⟩
def l4 (m:List Int) (Q:List Int):List Int:=Q.map λa=>m[a.toNat]?.getD 0
theorem act (ai:List bd) (x v w:Int):∀l:List Int,jO ai (l++[x]) v w=max (jO ai l v w) (ug ai x v w)
 |[]=>by
  show max (ug ai x v w) 0=max 0 (ug ai x v w);omega
 |y::l=>by
  show max (ug ai y v w) (jO ai (l++[x]) v w)=max (max (ug ai y v w) (jO ai l v w)) (ug ai x v w);rw[act ai x v w l];omega
theorem TH (h:jq w bE g N m) {aN:ac} {Q:List Int} (hA:cR w aN Q) (pO:Q.length<=1000) (uk:∀a∈Q,0<=a/\a<m.length) {v u:Nat} (aK:v<N) (Z:u<N):
 aE aa 233 #[J bE 0,aN,r c v,r c u] w λe D=>e=au (r c (jO g.arcs (l4 m Q) v u))/\ae w D:=by
 obtain⟨dG,fF,rfl,_⟩:=id hA;have eW:=I h;have dM:=I hA;have cW:=I uk;clear h hA uk;go_in;go_wp2_with fail;go_loopw [8,13] (λs i wr=>∃k:Nat,k<=Q.length/\s=r c (jO g.arcs (l4 m (Q.take k)) v u)/\i=r c k/\aM (ae w wr)) (λ_ i _=>Q.length-(cu i).toNat)
 ·exact⟨0,cQ _,rfl,rfl,I (bx _ _)⟩
 ·obtain⟨k,K,rfl,rfl,bP⟩:=hrel;by_cases a0:k<Q.length
  ·have ie:(k:Int)<Q.length:=G;have jl:=ew k;obtain⟨b,off,rfl,d0⟩:=(dM.o.a_ (bu.bg bP.o)).at k a0;obtain⟨i,ag⟩:∃i:Nat,Q[k]=(i:Int):=⟨Q[k].toNat,bI (cW.o _ (gB a0))⟩;have acu:i<m.length:=bI (cW.o _ (gB a0));rw[ag] at d0;have fG:=I (TF (eW.o.a_ (bu.bg bP.o)) acu aK Z);obtain⟨y,az⟩:=al (ug g.arcs m[i] v u);obtain⟨x,ak⟩:=al (jO g.arcs (l4 m (Q.take k)) v u);obtain⟨z,b5⟩:=al (if x<y then y else x);have c9:=I (show jO g.arcs (l4 m (Q.take (k+1))) v u=z from by
    have e:l4 m (Q.take (k+1))=l4 m (Q.take k)++[m[i]]:=by
     unfold l4;rw[XO,eA a0,ag,qc]
     congr 1
     show [m[((i:Int)).toNat]?.getD 0]=[m[i]];rw[ko,eA acu];rfl
    rw[e,act,<-ak,<-az,b5];split<;>omega)
   rw[<-az] at fG;rw[<-ak];have JB:(if x<y then y else x)=z:=b5.symm;clear ak az b5 ag;go_wp2_with fail;refine dl fG.o λay aX=>?_;have ft:=I (bP.o.next' aX);clear aX fG d0;go_wp2_with fail;go_roundw
   ·exact⟨k+1,a0,by rw[c9.o],by go_num,ft⟩
   ·simp[cu];omega
  ·obtain rfl:k=Q.length:=G;clear K;rw[v3];go_wp2_with fail;go_ret;exact⟨rfl,bP.o⟩
def Et (C:List Int) (v:Int):Option Int:=if v∈C then A 1 else T
theorem apf {C:List Int}:Et (C++[v])=gb (Et C) v 1:=by
 funext x;unfold Et gb;by_cases q:x=v
 ·rw[if_pos q,if_pos (fJ.2 (.inr (f2.2 q)))]
 ·rw[if_neg q];by_cases h:x∈C
  ·rw[if_pos (fJ.2 (.inl h))];exact(if_pos h).symm
  ·rw[if_neg λhm=>(fJ.1 hm).elim h λe=>q (f2.1 e)];exact(if_neg h).symm
def Cm (a7:Nat->Prop) (cD lm ab bX k:Nat):Prop:=a7 k\/k=cD\/k=lm\/k=ab\/k=bX
structure e5 (a7:Nat->Prop) (w:O) (cD aP hm lm ab bX:Nat) (N:Nat) (dO iK:Int) (h6 eL:ac) (L:List bw) (bc dL:Int->Option Int) (C:List Int) (M:Nat):Prop where
 aH:V w cD #[J aP 0,r c dO,r c iK,h6,eL,.map (A lm),.map (A ab),.map (A bX)] 315
 heap:i8 a7 w aP hm N L
 de:∃n,n<=M/\jM 2 w lm n bc
 Eu:∃n,n<=M/\jM 3 w ab n dL
 Ev:∃n,n<=M/\jM 3 w bX n (Et C)
 apart:¬a7 cD/\¬a7 lm/\¬a7 ab/\¬a7 bX/\lm≠ab/\lm≠bX/\ab≠bX
 dR:N<=12
theorem e5.dy {a7:Nat->Prop} {cD aP hm lm ab bX:Nat} {dO iK:Int} {h6 eL:ac} {L:List bw} {bc dL:Int->Option Int} {C:List Int} (h:e5 a7 w cD aP hm lm ab bX N dO iK h6 eL L bc dL C M) (aB:w.heap.size<=D.heap.size) (hb:∀k,Cm a7 cD lm ab bX k->D.heap[k]? =w.heap[k]?):e5 a7 D cD aP hm lm ab bX N dO iK h6 eL L bc dL C M:=by
 obtain⟨b2,a1,e4⟩:=h.de;obtain⟨cm,a2,g7⟩:=h.Eu;obtain⟨ii,dX,lI⟩:=h.Ev;exact⟨(hb _ (.inr (.inl rfl))).trans h.aH,h.heap.dy aB λk K=>hb k (.inl K),⟨b2,a1,e4.dy (hb _ (.inr (.inr (.inl rfl))))⟩,⟨cm,a2,g7.dy (hb _ (.inr (.inr (.inr (.inl rfl)))))⟩,⟨ii,dX,lI.dy (hb _ (.inr (.inr (.inr (.inr rfl)))))⟩,h.apart,h.dR⟩
theorem e5.lt {a7:Nat->Prop} {cD aP hm lm ab bX:Nat} {dO iK:Int} {h6 eL:ac} {L:List bw} {bc dL:Int->Option Int} {C:List Int} (h:e5 a7 w cD aP hm lm ab bX N dO iK h6 eL L bc dL C M) (K:Cm a7 cD lm ab bX k):k<w.heap.size:=by
 obtain⟨b2,a1,e4⟩:=h.de;obtain⟨cm,a2,g7⟩:=h.Eu;obtain⟨ii,dX,lI⟩:=h.Ev;rcases K with e|rfl|rfl|rfl|rfl
 ·exact h.heap.lt e
 ·exact h.aH.lt
 ·exact e4.lt
 ·exact g7.lt
 ·exact lI.lt
theorem e5.kept {a7:Nat->Prop} {cD aP hm lm ab bX:Nat} {dO iK:Int} {h6 eL:ac} {L:List bw} {bc dL:Int->Option Int} {C:List Int} {S:Nat->Prop} (h:e5 a7 w cD aP hm lm ab bX N dO iK h6 eL L bc dL C M) (K:Kept S w D) (cb:∀k,Cm a7 cD lm ab bX k->¬S k):e5 a7 D cD aP hm lm ab bX N dO iK h6 eL L bc dL C M:=h.dy K.size λk l2=>K.block k (h.lt l2) (cb k l2)
theorem e5.grow {a7:Nat->Prop} {cD aP hm lm ab bX:Nat} {dO iK:Int} {h6 eL:ac} {L:List bw} {bc dL:Int->Option Int} {C:List Int} {ki:Nat} (h:e5 a7 w cD aP hm lm ab bX N dO iK h6 eL L bc dL C M) (dU:M<=ki):e5 a7 w cD aP hm lm ab bX N dO iK h6 eL L bc dL C ki:=by
 obtain⟨b2,a1,e4⟩:=h.de;obtain⟨cm,a2,g7⟩:=h.Eu;obtain⟨ii,dX,lI⟩:=h.Ev;exact⟨h.aH,h.heap,⟨b2,G,e4⟩,⟨cm,G,g7⟩,⟨ii,G,lI⟩,h.apart,h.dR⟩
theorem e5.look {a7:Nat->Prop} {cD aP hm lm ab bX:Nat} {dO iK:Int} {h6 eL:ac} {L:List bw} {bc dL:Int->Option Int} {C:List Int} (h:e5 a7 w cD aP hm lm ab bX N dO iK h6 eL L bc dL C M) (aK:0<=v/\v<N):(l' 313 (.map (A lm)) (r c v) ad).run aa w= .ok (b8 #[r c ((bc v).getD 0),aA (bc v).isSome]) w:=by
 have:=h.dR;obtain⟨b2,a1,e4⟩:=h.de;exact e4.al0 Sn G
theorem e5.apg {a7:Nat->Prop} {cD aP hm lm ab bX:Nat} {dO iK:Int} {h6 eL:ac} {L:List bw} {bc dL:Int->Option Int} {C:List Int} (h:e5 a7 w cD aP hm lm ab bX N dO iK h6 eL L bc dL C M) (aK:0<=v/\v<N):(l' 313 (.map (A lm)) (r c v) ao).run aa w= .ok (r c ((bc v).getD 0)) w:=by
 have:=h.dR;obtain⟨b2,a1,e4⟩:=h.de;exact e4.look Sn G
theorem e5.Oc {a7:Nat->Prop} {cD aP hm lm ab bX:Nat} {dO iK:Int} {h6 eL:ac} {L:List bw} {bc dL:Int->Option Int} {C:List Int} (h:e5 a7 w cD aP hm lm ab bX N dO iK h6 eL L bc dL C M) (aK:0<=v/\v<N):(l' 155 (.map (A bX)) (r c v) ao).run aa w= .ok (r c (if v∈C then 1 else 0)) w:=by
 have:=h.dR;obtain⟨b2,a1,e4⟩:=h.Ev;have:=e4.look BW (v:=v) G;unfold Et at this;by_cases q:v∈C
 ·rw[if_pos q] at this⊢;exact this
 ·rw[if_neg q] at this⊢;exact this
theorem e5.uR {a7:Nat->Prop} {cD aP hm lm ab bX:Nat} {dO iK:Int} {h6 eL:ac} {L:List bw} {bc dL:Int->Option Int} {C:List Int} (h:e5 a7 w cD aP hm lm ab bX N dO iK h6 eL L bc dL C M) {H:bw->Prop} (aph:rD a7 w aP hm N H D):∃c',e5 (t_ a7 w D) D cD aP hm lm ab bX N dO iK h6 eL c' bc dL C M/\(∀x,x∈c'↔H x)/\Kept a7 w D:=by
 obtain⟨c',p1,p2,e8,_⟩:=aph;obtain⟨b2,a1,e4⟩:=h.de;obtain⟨cm,a2,g7⟩:=h.Eu;obtain⟨ii,dX,lI⟩:=h.Ev;obtain⟨cO,cq,fT,rd,nh⟩:=h.apart;have hg:∀k,k<w.heap.size->¬a7 k->¬t_ a7 w D k:=λk K aC hg=>by
  rcases hg with hg|hg
  ·exact aC hg
  ·omega
 exact⟨c',⟨e8.aH h.aH cO,p1,⟨b2,a1,e4.dy (e8.block _ e4.lt cq)⟩,⟨cm,a2,g7.dy (e8.block _ g7.lt fT)⟩,⟨ii,dX,lI.dy (e8.block _ lI.lt rd)⟩,⟨hg _ h.aH.lt cO,hg _ e4.lt cq,hg _ g7.lt fT,hg _ lI.lt rd,nh⟩,h.dR⟩,p2,e8⟩
theorem e5.label {a7:Nat->Prop} {cD aP hm lm ab bX:Nat} {dO iK:Int} {h6 eL:ac} {L:List bw} {bc dL:Int->Option Int} {C:List Int} (h:e5 a7 w cD aP hm lm ab bX N dO iK h6 eL L bc dL C M) (dU:M<=1000000) {n:Int} (aK:0<=v/\v<N) (a9:-9223372036854775808<=d/\d<=9223372036854775807) (aC:-9223372036854775808<=n/\n<=9223372036854775807):
 ∃v1 s1 ay aJ v2 fX ba bi,(xa 313 (.map (A lm)) (r c v)).run aa w= .ok (b8 #[v1,sK s1]) ay/\(xb 313 (.map (A lm)) (sK s1) (r c d)).run aa ay= .ok () aJ/\
  (xa 155 (.map (A ab)) (r c v)).run aa aJ= .ok (b8 #[v2,sK fX]) ba/\(xb 155 (.map (A ab)) (sK fX) (r c n)).run aa ba= .ok () bi/\
  e5 a7 bi cD aP hm lm ab bX N dO iK h6 eL L (gb bc v d) (gb dL v n) C (M+1)/\Kept (λk=>k=lm\/k=ab) w bi:=by
 have iH:=h.dR;obtain⟨b2,a1,e4⟩:=h.de;obtain⟨cm,a2,g7⟩:=h.Eu;obtain⟨ii,dX,lI⟩:=h.Ev;obtain⟨cO,cq,fT,rd,nh,Ew,Ex⟩:=h.apart;obtain⟨v1,s1,ay,aJ,r1,r2,_,mv,kQ⟩:=e4.entry Sn (v:=v) (by unfold ff;omega) G a9;have acv:=g7.dy (kQ.block ab g7.lt (λe=>nh e.symm));obtain⟨v2,fX,ba,bi,q1,q2,_,cZ,ek⟩:=acv.entry BW (v:=v) (by unfold ff;omega) G aC;have K:Kept (λk=>k=lm\/k=ab) w bi:=(kQ.mono λk e=> .inl e).trans (ek.mono λk e=> .inr e);refine⟨v1,s1,ay,aJ,v2,fX,ba,bi,r1,r2,q1,q2,⟨K.aH h.aH λe=>?_,h.heap.dy K.size (λk hF=>K.block k (h.heap.lt hF) λe=>?_),⟨b2+1,G,mv.dy (ek.block lm (jP e4.lt kQ.size) nh)⟩,⟨cm+1,G,cZ⟩,⟨ii,G,lI.dy (K.block bX lI.lt λe=>?_)⟩,h.apart,h.dR⟩,K⟩
 ·rcases e with e|e
  ·exact e4.ne h.aH e
  ·exact g7.ne h.aH e
 ·rcases e with e|e
  ·exact cq (e▸hF)
  ·exact fT (e▸hF)
 ·rcases e with e|e
  ·exact Ew e.symm
  ·exact Ex e.symm
theorem e5.close {a7:Nat->Prop} {cD aP hm lm ab bX:Nat} {dO iK:Int} {h6 eL:ac} {L:List bw} {bc dL:Int->Option Int} {C:List Int} (h:e5 a7 w cD aP hm lm ab bX N dO iK h6 eL L bc dL C M) (dU:M<=1000000) (aK:0<=v/\v<N):
 ∃D,(Instr.mapUpdate 155 (.map (A bX)) (r c v) (r c 1)).run aa w= .ok () D/\e5 a7 D cD aP hm lm ab bX N dO iK h6 eL L bc dL (C++[v]) (M+1)/\Kept (λk=>k=bX) w D:=by
 have iH:=h.dR;obtain⟨b2,a1,e4⟩:=h.de;obtain⟨cm,a2,g7⟩:=h.Eu;obtain⟨ii,dX,lI⟩:=h.Ev;obtain⟨cO,cq,fT,rd,nh,Ew,Ex⟩:=h.apart;obtain⟨o,aQ⟩:∃z:Int,z=1:=⟨1,rfl⟩;have ww:-9223372036854775808<=o/\o<=9223372036854775807:=G;have lw:-9223372036854775808<=v/\v<=9223372036854775807:=G;have NW:ii<9223372036854775807:=G;obtain⟨D,r1,r2,K⟩:=lI.store BW NW lw ww;rw[aQ] at r1 r2;rw[<-apf] at r2;exact⟨D,r1,⟨K.aH h.aH (lI.ne h.aH),h.heap.dy K.size (λk hF=>K.block k (h.heap.lt hF) λe=>rd (e▸hF)),⟨b2,G,e4.dy (K.block lm e4.lt Ew)⟩,⟨cm,G,g7.dy (K.block ab g7.lt Ex)⟩,⟨ii+1,G,r2⟩,h.apart,h.dR⟩,K⟩
def iL (l:List Bool):Array ac:=(l.map Value.bool).toArray
theorem Ey (l:List Bool) (i:Nat) (ag:i<l.length):(iL l)[i]? =A (aA l[i]):=by simp[iL,ag]
theorem TK (l:List Bool) (i:Nat) (x:Bool):(iL l).setIfInBounds i (aA x)=iL (l.set i x):=by
 apply FD;simp[iL,W8]
structure kT (w:O) (q af p ab N aW bs aY bn:Nat) (bo:ac) (a7:Nat->Prop) (L:List bw) (de aS:List Int) (bL:List Bool) (aD:Nat):Prop where
 aH:V w q #[J af 0,J p 0,E (A (B aW 0)) N N,E (A (B bs 0)) N N,E (A (B aY 0)) N N,.func (.func 210) #[] #[J bn 0],.func (.func 211) #[] #[J bn 0],bo] 307
 heap:i8 a7 w p ab N L
 pV:V w aW (c6 c de) 2
 vy:de.length=N
 rK:V w bs (c6 c aS) 3
 Cn:aS.length=N
 qz:V w aY (iL bL) 4
 vz:bL.length=N
 kM:∃b7,w.ownsRow 0 310 4 bo aD b7
 apart:¬a7 q/\¬a7 aW/\¬a7 bs/\¬a7 aY/\∀k,bo.ownBlock=A k->¬a7 k
 dR:N<=12
theorem kT.dy {ab:Nat} {a7:Nat->Prop} {L:List bw} {de aS:List Int} (h:kT w q af p ab N aW bs aY bn bo a7 L de aS bL aD) (aB:w.heap.size<=D.heap.size)
 (hb:∀k,(a7 k\/k=q\/k=aW\/k=bs\/k=aY\/bo.ownBlock=A k)->D.heap[k]? =w.heap[k]?):kT D q af p ab N aW bs aY bn bo a7 L de aS bL aD:=by
 obtain⟨b7,h2⟩:=h.kM;exact⟨(hb q a3).trans h.aH,h.heap.dy aB λk K=>hb k (.inl K),(hb aW a3).trans h.pV,h.vy,(hb bs a3).trans h.rK,h.Cn,(hb aY a3).trans h.qz,h.vz,⟨b7,fB h2 λk K=>hb k (by simp[K])⟩,h.apart,h.dR⟩
theorem kT.xF {ab:Nat} {a7:Nat->Prop} {L:List bw} {de aS:List Int} (h:kT w q af p ab N aW bs aY bn bo a7 L de aS bL aD):q<w.heap.size/\aW<w.heap.size/\bs<w.heap.size/\aY<w.heap.size/\∀k,bo.ownBlock=A k->k<w.heap.size:=by
 obtain⟨b7,h2⟩:=h.kM;exact⟨h.aH.lt,h.pV.lt,h.rK.lt,h.qz.lt,λk K=>(di h2 K).2.choose_spec.lt⟩
theorem kT.below {ab:Nat} {a7:Nat->Prop} {L:List bw} {de aS:List Int} (h:kT w q af p ab N aW bs aY bn bo a7 L de aS bL aD) (hb:ae w D):kT D q af p ab N aW bs aY bn bo a7 L de aS bL aD:=
 h.dy hb.size λk K=>hb.block k (by
  obtain⟨q1,q2,bm,cZ,ek⟩:=h.xF;rcases K with K|rfl|rfl|rfl|rfl|K
  ·exact h.heap.lt K
  ·exact q1
  ·exact q2
  ·exact bm
  ·exact cZ
  ·exact ek k K)
theorem kT.uR {ab:Nat} {a7:Nat->Prop} {L:List bw} {de aS:List Int} (h:kT w q af p ab N aW bs aY bn bo a7 L de aS bL aD) {H:bw->Prop} (aP:rD a7 w p ab N H D):
 ∃c',kT D q af p ab N aW bs aY bn bo (t_ a7 w D) c' de aS bL aD/\(∀x,x∈c'↔H x)/\Kept a7 w D:=by
 obtain⟨c',h1,h2,ap,bl⟩:=aP;obtain⟨q1,q2,bm,cZ,ek⟩:=h.xF;obtain⟨a1,a2,dX,jc,np⟩:=h.apart;obtain⟨b7,r2⟩:=h.kM;have hg:∀k,k<w.heap.size->¬a7 k->¬t_ a7 w D k:=λk K aC hg=>by
  rcases hg with hg|hg
  ·exact aC hg
  ·omega
 exact⟨c',⟨ap.aH h.aH a1,h1,ap.aH h.pV a2,h.vy,ap.aH h.rK dX,h.Cn,ap.aH h.qz jc,h.vz,⟨b7,fB r2 λk K=>ap.block k (ek k K) (np k K)⟩,⟨hg _ q1 a1,hg _ q2 a2,hg _ bm dX,hg _ cZ jc,λk K=>hg k (ek k K) (np k K)⟩,h.dR⟩,h2,ap⟩
theorem Co {ab:Nat} {a7:Nat->Prop} {L:List bw} {de aS:List Int} (h:kT w q af p ab N aW bs aY bn bo a7 L de aS bL aD) {t:cY} (hb:V w b cs t fr) (ht:t≠310):∀k,bo.ownBlock=A k->k≠b:=λk K e=>by
 obtain⟨b7,r2⟩:=h.kM;obtain⟨_,_,aO⟩:=di r2 K;subst e;exact ht (er hb aO)
theorem kT.gb {ab:Nat} {a7:Nat->Prop} {L:List bw} {de aS:List Int} (h:kT w q af p ab N aW bs aY bn bo a7 L de aS bL aD) (i:Nat) (d:Int):
 kT (w.setCell (B aW i) (r c d)) q af p ab N aW bs aY bn bo a7 L (de.set i d) aS bL aD:=by
 obtain⟨a1,a2,dX,jc,np⟩:=h.apart;obtain⟨b7,r2⟩:=h.kM;have b9:∀j,j≠aW->(w.setCell (B aW i) (r c d)).heap[j]? =w.heap[j]? :=λj av=>d7 _ _ _ _ av;have ol:∀{b:Nat} {cs:Array ac} {t:cY} {fr:Nat×Nat},V w b cs t fr->t≠2->b≠aW:=λ{b cs t fr} hb ht e=>by
  subst e;exact ht (er hb h.pV)
 refine⟨(b9 _ (ol h.aH bj)).trans h.aH,h.heap.dy a3 (λk K=>b9 k (λe=>a2 (e▸K))),?_,by rw[gN];exact h.vy,(b9 _ (ol h.rK bj)).trans h.rK,h.Cn,(b9 _ (ol h.qz bj)).trans h.qz,h.vz,⟨b7,fB r2 λk K=>b9 k (Co h h.pV bj k K)⟩,h.apart,h.dR⟩;have U:=h.pV.set i (r c d)
 rwa[tO] at U
theorem kT.Al {ab:Nat} {a7:Nat->Prop} {L:List bw} {de aS:List Int} (h:kT w q af p ab N aW bs aY bn bo a7 L de aS bL aD) (i:Nat) (d:Int):
 kT (w.setCell (B bs i) (r c d)) q af p ab N aW bs aY bn bo a7 L de (aS.set i d) bL aD:=by
 obtain⟨a1,a2,dX,jc,np⟩:=h.apart;obtain⟨b7,r2⟩:=h.kM;have b9:∀j,j≠bs->(w.setCell (B bs i) (r c d)).heap[j]? =w.heap[j]? :=λj av=>d7 _ _ _ _ av;have ol:∀{b:Nat} {cs:Array ac} {t:cY} {fr:Nat×Nat},V w b cs t fr->t≠3->b≠bs:=λ{b cs t fr} hb ht e=>by
  subst e;exact ht (er hb h.rK)
 refine⟨(b9 _ (ol h.aH bj)).trans h.aH,h.heap.dy a3 (λk K=>b9 k (λe=>dX (e▸K))),(b9 _ (ol h.pV bj)).trans h.pV,h.vy,?_,by rw[gN];exact h.Cn,(b9 _ (ol h.qz bj)).trans h.qz,h.vz,⟨b7,fB r2 λk K=>b9 k (Co h h.rK bj k K)⟩,h.apart,h.dR⟩;have U:=h.rK.set i (r c d)
 rwa[tO] at U
theorem kT.close {ab:Nat} {a7:Nat->Prop} {L:List bw} {de aS:List Int} (h:kT w q af p ab N aW bs aY bn bo a7 L de aS bL aD) (i:Nat) (x:Bool):
 kT (w.setCell (B aY i) (aA x)) q af p ab N aW bs aY bn bo a7 L de aS (bL.set i x) aD:=by
 obtain⟨a1,a2,dX,jc,np⟩:=h.apart;obtain⟨b7,r2⟩:=h.kM;have b9:∀j,j≠aY->(w.setCell (B aY i) (aA x)).heap[j]? =w.heap[j]? :=λj av=>d7 _ _ _ _ av;have ol:∀{b:Nat} {cs:Array ac} {t:cY} {fr:Nat×Nat},V w b cs t fr->t≠4->b≠aY:=λ{b cs t fr} hb ht e=>by
  subst e;exact ht (er hb h.qz)
 refine⟨(b9 _ (ol h.aH bj)).trans h.aH,h.heap.dy a3 (λk K=>b9 k (λe=>jc (e▸K))),(b9 _ (ol h.pV bj)).trans h.pV,h.vy,(b9 _ (ol h.rK bj)).trans h.rK,h.Cn,?_,by rw[gN];exact h.vz,⟨b7,fB r2 λk K=>b9 k (Co h h.qz bj k K)⟩,h.apart,h.dR⟩;have U:=h.qz.set i (aA x)
 rwa[TK] at U
def Ez (w:O) (bn:Nat) (v ms:Int):Prop:=aE aa 211 #[r c v,J bn 0] w λe D=>e=au (r c ms)/\D=w
theorem acw {F:Nat->Prop} {ab:Nat} {n:Int} {L:List bw} (h:i8 F w p ab n L) {id:Int} (ar:0<=id/\id<n):∃k b,aE aa 254 #[J p 0,r c id] w (λe D=>e=au (b8 #[r c k,aA b])/\D=w)/\((b=ad/\(id,k)∈L)\/(b=ao/\∀k,(id,k)∉L)):=by
 by_cases K:∃k,(id,k)∈L
 ·obtain⟨k,K⟩:=K;exact⟨k,ad,SO h K,.inl ⟨rfl,K⟩⟩
 ·have aC:∀k,(id,k)∉L:=λk hm=>K ⟨k,hm⟩;exact⟨_,ao,SP h aC ar,.inr ⟨rfl,aC⟩⟩
theorem Od {ab:Nat} {a7:Nat->Prop} {L:List bw} {de aS:List Int} (h:kT w q af p ab N aW bs aY bn bo a7 L de aS bL aD) (ag:i<N) {ms:Int} (lB:Ez w bn i ms) (d b:Int)
 (hold:bL[i]? =A ad\/(bL[i]? =A ao/\(72057594037927936<=ms\/(ms<72057594037927936/\∃k e,((i:Int),k)∈L/\de[i]? =A e/\e<=d)))):
 aE aa 212 #[J q 0,r c i,r c d,r c b] w λe D=>e=au (b8 #[])/\D=w:=by
 have aV:=aR h.aH 1;have bb:=aR h.aH 2;have gR:=aR h.aH 4;have kf:=aR h.aH 6;have k4:=h.qz.cell i;have k2:=h.pV.cell i;rw[Ey _ _ (by rw[h.vz];exact ag)] at k4;rw[kd _ _ _ (by rw[h.vy];exact ag)] at k2;obtain⟨uh,nU⟩:=al (bL[i]'(by rw[h.vz];exact ag));obtain⟨api,tl⟩:=al (de[i]'(by rw[h.vy];exact ag));rw[<-nU] at k4;rw[<-tl] at k2;rw[eA (by rw[h.vz];exact ag),eA (by rw[h.vy];exact ag),<-nU,<-tl] at hold;have yP:(i:Int)<N:=G;have ve:=ew i;obtain⟨k,kb,K,sw⟩:=acw h.heap (id:=(i:Int)) ⟨ve,yP⟩;have cw:=I K;unfold Ez at lB;have m1:=I lB;clear nU tl;rcases hold with bJ|⟨bJ,dj|⟨dj,hY,e,hm,he,hle⟩⟩
 ·obtain rfl:=eT bJ;go_in;go_wp2_with fail;refine eO m1.o ?_;go_wp2_with fail;refine eO cw.o ?_;go_wp2_with fail;refine gh (mQ rfl _ _ _) rfl ?_;exact⟨rfl,rfl⟩
 ·obtain rfl:=eT bJ;go_in;go_wp2_with fail;refine eO m1.o ?_;go_wp2_with fail;refine eO cw.o ?_;go_wp2_with fail;refine gh (mQ rfl _ _ _) rfl ?_;exact⟨rfl,rfl⟩
 ·obtain rfl:=eT bJ;obtain rfl:=eT he;rcases sw with⟨rfl,_⟩|⟨_,aC⟩
  ·clear h bJ hm;go_in;go_wp2_with fail;refine eO m1.o ?_;go_wp2_with fail;refine eO cw.o ?_;go_wp2_with fail;refine gh (mQ rfl _ _ _) rfl ?_;exact⟨rfl,rfl⟩
  ·exact absurd hm (aC _)
def acx (w:O) (q af p ab N aW bs aY bn:Nat) (bo:ac) (a7:Nat->Prop) (L:List bw) (de aS:List Int) (bL:List Bool) (aD:Nat) (i:Nat) (d b k:Int) (D:O):Prop:=
 ∃c' hi,kT D q af p ab N aW bs aY bn bo hi c' (de.set i d) (aS.set i b) bL aD/\(∀x,x∈c'↔x=((i:Int),k)\/(x∈L/\x.1≠(i:Int)))/\Kept (λk=>a7 k\/k=aW\/k=bs) w D/\(∀k,hi k->a7 k\/w.heap.size<=k)
theorem acy {ab:Nat} {a7:Nat->Prop} {L:List bw} {de aS:List Int} (h:kT w q af p ab N aW bs aY bn bo a7 L de aS bL aD) (ag:i<N) {ms:Int} (lB:Ez w bn i ms) (d b:Int) (acz:-72057594037927936<=ms/\ms<72057594037927936) (a9:0<=d/\d<=144115188075855872)
 (bJ:bL[i]? =A ao) (hL:∀k,((i:Int),k)∈L->∃e,k=e+ms/\de[i]? =A e/\d<e):
 aE aa 212 #[J q 0,r c i,r c d,r c b] w λe D=>e=au (b8 #[])/\acx w q af p ab N aW bs aY bn bo a7 L de aS bL aD i d b (d+ms) D:=by
 have aV:=aR h.aH 1;have bb:=aR h.aH 2;have gR:=aR h.aH 4;have kf:=aR h.aH 6;have k4:=h.qz.cell i;have k2:=h.pV.cell i;rw[Ey _ _ (by rw[h.vz];exact ag)] at k4;rw[kd _ _ _ (by rw[h.vy];exact ag)] at k2;obtain⟨api,tl⟩:=al (de[i]'(by rw[h.vy];exact ag));rw[<-tl] at k2;rw[eA (by rw[h.vz];exact ag)] at bJ;rw[eT bJ] at k4;rw[eA (by rw[h.vy];exact ag),<-tl] at hL;have yP:(i:Int)<N:=G;have ve:=ew i;have vb:aM (∀ay,rD a7 w p ab N (λx=>x=((i:Int),d+ms)\/(x∈L/\x.1≠(i:Int))) ay->(∀u,ae ay u->u.cell? (B q 2)=A (E (A (B aW 0)) N N)/\u.cell? (B q 3)=A (E (A (B bs 0)) N N))/\
  ∀u,ae ay u->(∃z,u.cell? (B aW i)=A z)/\u.frozen? (B aW i)=ao/\(∃z,(u.setCell (B aW i) (r c d)).cell? (B bs i)=A z)/\(u.setCell (B aW i) (r c d)).frozen? (B bs i)=ao/\acx w q af p ab N aW bs aY bn bo a7 L de aS bL aD i d b (d+ms) ((u.setCell (B aW i) (r c d)).setCell (B bs i) (r c b))):=λay aP=>by
  obtain⟨c',q1,q2,bm⟩:=h.uR aP;refine⟨λu Z=>⟨(q1.below Z).aH.cell 2,(q1.below Z).aH.cell 3⟩,λu Z=>?_⟩;have Oe:=q1.below Z;have U:=Oe.gb i d;refine⟨⟨_,by rw[Oe.pV.cell];exact kd _ _ i (by rw[Oe.vy];omega)⟩,Oe.pV.free i (.inr (cQ _)),⟨_,by rw[U.rK.cell];exact kd _ _ i (by rw[U.Cn];omega)⟩,U.rK.free i (.inr (cQ _)),c',_,U.Al i b,q2,?_,λk K=>?_⟩
  ·have Of:Kept a7 w u:=bm.trans (Kept.bg Z);exact((Of.mono λk K=> .inl K).setCell (.inr (.inl rfl)) _).setCell (.inr (.inr rfl)) _
  ·rcases K with K|K
   ·exact .inl K
   ·exact .inr K.1
 obtain⟨k,kb,K,sw⟩:=acw h.heap (id:=(i:Int)) ⟨ve,yP⟩;have cw:=I K;unfold Ez at lB;have m1:=I lB;rcases sw with⟨rfl,hm⟩|⟨rfl,aC⟩
 ·obtain⟨e,rfl,he,a0⟩:=hL k hm;obtain rfl:=eT he;have fG:=I (SM h.heap hm (key:=d+ms) G);clear tl;go_in;go_wp2_with fail;refine eO m1.o ?_;go_wp2_with fail;refine eO cw.o ?_;go_wp2_with fail;refine dl fG.o λay aP=>?_;obtain⟨cb,mR⟩:=vb.o ay aP;obtain⟨h7,oq⟩:=cb ay (bx _ _);have j9:=I mR;have bC:=I cb;go_wp2_with fail;refine jQ (λD=>D.cell? (B q 2)=A (E (A (B aW 0)) N N)/\D.cell? (B q 3)=A (E (A (B bs 0)) N N)) 13 rfl ?_;change ej _ _ _ _ _ _ _ 16 _ _ ay.drew;obtain⟨et,dm⟩:=al ay.drew;have aL:=I (show ae ay et by rw[dm];exact(bx _ _).drew);rw[<-dm];clear dm;have ax:=bC.o _ aL.o;repeat first|refine fS ?_|refine ea ?_
  obtain⟨⟨z,wC⟩,f6,⟨fD,Ck⟩,eF,is⟩:=j9.o et aL.o;obtain⟨dV,dz⟩:=al (et.setCell (B aW i) (r c d));rw[<-dz] at Ck eF is;refine dJ 13 ?_;refine lG dV ?_ (he:=by rw[dz];go_simp);have jW:=I dz;clear dz;refine⟨gj,?_⟩;repeat refine ea ?_
  obtain⟨cz,hu⟩:=al (dV.setCell (B bs i) (r c b));rw[<-hu] at is;refine dJ 15 ?_;refine lG cz ?_ (he:=by rw[hu];go_simp);have cH:=I is;clear hu;refine⟨gj,?_⟩;refine fc ?_;go_wp2_with fail;go_end0;exact⟨rfl,cH.o⟩
 ·have fG:=I (NE h.heap (d+ms) aC ⟨ve,yP⟩);have hz:aM (∀ay,rD a7 w p ab N (λx=>x=((i:Int),d+ms)\/x∈L) ay->rD a7 w p ab N (λx=>x=((i:Int),d+ms)\/(x∈L/\x.1≠(i:Int))) ay):=λay ⟨c',q1,q2,bm,cZ⟩=>⟨c',q1,λx=>by
   rw[q2];constructor
   ·rintro(h|h)
    ·exact .inl h
    ·exact .inr ⟨h,λe=>aC x.2 (by rw[<-e];exact h)⟩
   ·rintro(h|h)
    ·exact .inl h
    ·exact .inr h.1,bm,cZ⟩
  clear tl;go_in;go_wp2_with fail;refine eO m1.o ?_;go_wp2_with fail;refine eO cw.o ?_;go_wp2_with fail;refine dl fG.o λay aP=>?_;obtain⟨cb,mR⟩:=vb.o ay (hz.o ay aP);obtain⟨h7,oq⟩:=cb ay (bx _ _);have j9:=I mR;have bC:=I cb;go_wp2_with fail;refine jQ (λD=>D.cell? (B q 2)=A (E (A (B aW 0)) N N)/\D.cell? (B q 3)=A (E (A (B bs 0)) N N)) 13 rfl ?_;change ej _ _ _ _ _ _ _ 16 _ _ ay.drew;obtain⟨et,dm⟩:=al ay.drew;have aL:=I (show ae ay et by rw[dm];exact(bx _ _).drew);rw[<-dm];clear dm;have ax:=bC.o _ aL.o;repeat first|refine fS ?_|refine ea ?_
  obtain⟨⟨z,wC⟩,f6,⟨fD,Ck⟩,eF,is⟩:=j9.o et aL.o;obtain⟨dV,dz⟩:=al (et.setCell (B aW i) (r c d));rw[<-dz] at Ck eF is;refine dJ 13 ?_;refine lG dV ?_ (he:=by rw[dz];go_simp);have jW:=I dz;clear dz;refine⟨gj,?_⟩;repeat refine ea ?_
  obtain⟨cz,hu⟩:=al (dV.setCell (B bs i) (r c b));rw[<-hu] at is;refine dJ 15 ?_;refine lG cz ?_ (he:=by rw[hu];go_simp);have cH:=I is;clear hu;refine⟨gj,?_⟩;refine fc ?_;go_wp2_with fail;go_end0;exact⟨rfl,cH.o⟩
def fa (Q:List bd) (ok:Nat->Bool):List bd:=(m8 Q.length).filterMap λn=>if ok n then Q[n]? else T
theorem sx {ok:Nat->Bool} {a:bd}:a∈fa Q ok↔∃n,∃h:n<Q.length,ok n=ad/\Q[n]=a:=by
 unfold fa;rw[List.mem_filterMap];constructor
 ·rintro⟨n,aC,h⟩;have aC:=tI.1 aC;by_cases q:ok n=ad
  ·rw[if_pos q,eA aC] at h;exact⟨n,aC,q,eT h⟩
  ·rw[if_neg q] at h;cases h
 ·rintro⟨n,aC,q,rfl⟩;exact⟨n,tI.2 aC,by rw[if_pos q,eA aC]⟩
theorem y2 {ok:Nat->Bool}:∀a∈fa Q ok,a∈Q:=λa ha=>by
 obtain⟨n,aC,_,rfl⟩:=sx.1 ha;exact gB aC
def J5 (bc:Int->Option Int) (de:List Int):Prop:=∀v d,bc v=A d->de[v.toNat]? =A d
theorem J5.set {bc:Int->Option Int} {de:List Int} (h:J5 bc de) (b1:xG bc N) (aw:de.length=N) (az:0<=y/\y<N) (d:Int):J5 (gb bc y d) (de.set y.toNat d):=λx e ak=>by
 by_cases q:x=y
 ·subst q;rw[nc] at ak;obtain rfl:=eT ak;rw[tJ G]
 ·rw[kG _ _ q] at ak;have:=b1 x e ak;rw[uM G];exact h x e ak
theorem xG.set {bc:Int->Option Int} (b1:xG bc N) (az:0<=y/\y<N) (d:Int):xG (gb bc y d) N:=λx e ak=>by
 by_cases q:x=y
 ·rw[q];exact az
 ·rw[kG _ _ q] at ak;exact b1 x e ak
def xU (R:Int) (p:Int->Int) (Q:List bd) (ok:Nat->Bool) (s:Int) (N:Nat) (L:List bw) (de aS C:List Int):Prop:=
 ∃bc,nt (fa Q ok) s bc C/\pk R p L bc C/\nW Q s bc C (oZ aS)/\xG bc N/\C.Nodup/\J5 bc de/\de.length=N/\aS.length=N
def rL (R:Int) (p:Int->Int) (Q:List bd) (ok:Nat->Bool) (s:Int) (N:Nat) (v cU:Int) (S:List bd) (L:List bw) (de aS C:List Int):Prop:=
 ∃bc,sm (fa Q ok) s bc C v cU S/\pk R p L bc (C++[v])/\nW Q s bc (C++[v]) (oZ aS)/\xG bc N/\(C++[v]).Nodup/\J5 bc de/\de.length=N/\aS.length=N
theorem xU.begin (R:Int) (p:Int->Int) (Q:List bd) (ok:Nat->Bool) (s:Int) (N:Nat) (aB:0<=s/\s<N) {L:List bw} (hL:∀x,x∈L↔x=(s,p s)) {de aS:List Int} (aw:de[s.toNat]? =A 0) (nk:de.length=N) (ha:oZ aS s=-1) (Og:aS.length=N):xU R p Q ok s N L de aS []:=by
 refine⟨_,nt.begin _ s,λx=>?_,nW.begin _ _ _ ha,λv d h=>?_,QM,λv d h=>?_,nk,Og⟩
 ·rw[hL];constructor
  ·rintro rfl;exact⟨0,nc _ _ _,a3,a3⟩
  ·rintro⟨d,h1,_,ap⟩;by_cases e:x.1=s
   ·rw[e,nc] at h1;obtain rfl:=eT h1;exact XN e (by rw[ap,e];simp)
   ·rw[kG _ _ e] at h1;cases h1
 ·by_cases e:v=s
  ·subst e;exact aB
  ·rw[kG _ _ e] at h;cases h
 ·by_cases e:v=s
  ·subst e;rw[nc] at h;obtain rfl:=eT h;exact aw
  ·rw[kG _ _ e] at h;cases h
theorem xU.pop (ah:0<R) {p:Int->Int} {ok:Nat->Bool} {L:List bw} {de aS C:List Int} (h:xU R p Q ok s N L de aS C) (aP:∀a∈fa Q ok,p a.1<=R*a.2.2+p a.2.1) {k:Int} (hm:(v,k)∈L) (tZ:∀x∈L,k<=x.2) (vn:∀x,x∈c'↔x∈L/\x.1≠v):
 ∃d,v∉C/\(0<=v/\v<N)/\k=R*d+p v/\f_ (fa Q ok) s v d/\de[v.toNat]? =A d/\(C++[v]).length<=N/\rL R p Q ok s N v d [] c' de aS C:=by
 obtain⟨bc,h1,h2,ap,bl,cL,eI,gu,h9⟩:=h;obtain⟨d,q1,q2,bm,cZ,ek⟩:=h1.Ji ah aP h2 hm tZ;have ar:=bl v d q1;have hnd:=S8 cL q2;refine⟨d,q2,ar,bm,cZ,eI v d q1,?_,bc,ek,h2.pop vn,ap.close q2,bl,hnd,eI,gu,h9⟩;refine t6 N _ hnd λx ak=>?_;rcases fJ.1 ak with ak|ak
 ·obtain⟨d,a9⟩:=h1.labelled x ak;exact bl x d a9
 ·rw[f2.1 ak];exact ar
theorem rL.step {p:Int->Int} {ok:Nat->Bool} {L:List bw} {de aS C:List Int} (h:rL R p Q ok s N v cU S L de aS C) (bU:∀a∈Q,0<=a.2.2) (aC:n<Q.length) (bK:ok n=ad) (aK:Q[n].1=v) (az:0<=Q[n].2.1/\Q[n].2.1<N):
 (Q[n].2.1∈C++[v]/\rL R p Q ok s N v cU (S++[Q[n]]) L de aS C)\/
 (Q[n].2.1∉C++[v]/\((∃d,(Q[n].2.1,R*d+p Q[n].2.1)∈L/\de[Q[n].2.1.toNat]? =A d/\d<=cU+Q[n].2.2/\rL R p Q ok s N v cU (S++[Q[n]]) L de aS C)\/
  ((∀k,(Q[n].2.1,k)∈L->∃d,k=R*d+p Q[n].2.1/\de[Q[n].2.1.toNat]? =A d/\cU+Q[n].2.2<d)/\
   ∀c':List bw,(∀x,x∈c'↔x=(Q[n].2.1,R*(cU+Q[n].2.2)+p Q[n].2.1)\/(x∈L/\x.1≠Q[n].2.1))->rL R p Q ok s N v cU (S++[Q[n]]) c' (de.set Q[n].2.1.toNat (cU+Q[n].2.2)) (aS.set Q[n].2.1.toNat n) C))):=by
 obtain⟨bc,h1,h2,ap,bl,cL,eI,gu,h9⟩:=h;have ha:Q[n]∈fa Q ok:=sx.2 ⟨n,aC,bK,rfl⟩;have J6:∀a∈fa Q ok,0<=a.2.2:=λa h=>bU a (y2 a h);by_cases ah:Q[n].2.1∈C++[v]
 ·exact .inl ⟨ah,bc,h1.closed ha aK ah,h2,ap,bl,cL,eI,gu,h9⟩
 ·refine .inr ⟨ah,?_⟩;by_cases a9:∃d,bc Q[n].2.1=A d/\d<=cU+Q[n].2.2
  ·obtain⟨d,a9,hle⟩:=a9;exact .inl ⟨d,h2.key a9 ah,eI _ d a9,hle,bc,h1.a_ a9 hle,h2,ap,bl,cL,eI,gu,h9⟩
  ·have a0:∀d,bc Q[n].2.1=A d->cU+Q[n].2.2<d:=λd fy=>by
    by_cases q:d<=cU+Q[n].2.2
    ·exact absurd ⟨d,fy,q⟩ a9
    ·omega
   refine .inr ⟨λk K=>?_,λc' vn=>?_⟩
   ·obtain⟨d,q1,_,bm⟩:=h2.label K;exact⟨d,bm,eI _ d q1,a0 d q1⟩
   have JD:Q[n].2.1∉C:=λhm=>ah (fJ.2 (.inl hm));have nU:Q[n].2.1≠v:=λe=>ah (fJ.2 (.inr (f2.2 e)));refine⟨_,h1.set J6 ha aK JD nU a0,h2.set ah vn,?_,bl.set az _,cL,eI.set bl gu az _,by rw[gN];exact gu,by rw[gN];exact h9⟩;refine(ap.set aC (cU+Q[n].2.2) (by rw[aK];exact fJ.2 (.inr (f2.2 rfl))) ⟨cU,by rw[aK];exact h1.own⟩ ah).congr λx d ak=>?_;refine(aba ⟨az.1,by rw[h9];exact az.2⟩ ?_).symm;by_cases e:x=Q[n].2.1
   ·rw[e];exact az.1
   ·rw[kG _ _ e] at ak;exact(bl x d ak).1
theorem rL.end {p:Int->Int} {ok:Nat->Bool} {L:List bw} {de aS C:List Int} (h:rL R p Q ok s N v cU S L de aS C) (cb:∀n:Nat,∀aC:n<Q.length,ok n=ad->Q[n].1=v->Q[n]∈S):xU R p Q ok s N L de aS (C++[v]):=by
 obtain⟨bc,h1,h2,ap,bl,cL,eI,gu,h9⟩:=h;exact⟨bc,h1.end λa ha he=>by
  obtain⟨n,aC,K,rfl⟩:=sx.1 ha;exact cb n aC K he,h2,ap,bl,cL,eI,gu,h9⟩
theorem xU.none {p:Int->Int} {ok:Nat->Bool} {L:List bw} {de aS C:List Int} (h:xU R p Q ok s N L de aS C) (hL:∀x,x∉L) (ht:t∉C):c1 (fa Q ok) s t=72057594037927936:=by
 obtain⟨bc,h1,h2,_⟩:=h;obtain rfl:L=[]:=XK.2 hL;exact z_ λd bU=>ht (h1.empty h2 bU)
inductive pq (Q:List bd) (cA:Int->Int):Int->List Int->Prop
 |nil {v:Int} (h:cA v=-1):pq Q cA v []
 |cons {v:Int} {n:Nat} (aC:n<Q.length) (h:cA v=(n:Int)) {l:List Int} (k:pq Q cA Q[n].1 l):pq Q cA v ((n:Int)::l)
theorem nW.chain {bc:Int->Option Int} {C:List Int} {cA:Int->Int} (h:nW Q s bc C cA):∀(U:Nat) (v d:Int),bc v=A d->G1 C v<=U->∃l,pq Q cA v l/\l.length<=U:=λU=>by
 induction U with
 |zero=>
  intro v d aK ar;rcases h.back aK with⟨_,q⟩|⟨n,aC,q1,q2,bm,cZ⟩
  ·exact⟨[],.nil q,bY _⟩
  ·omega
 |succ U d4=>
  intro v d aK ar;rcases h.back aK with⟨_,q⟩|⟨n,aC,q1,q2,⟨e,bm⟩,cZ⟩
  ·exact⟨[],.nil q,cQ _⟩
  ·obtain⟨l,k1,k2⟩:=d4 _ e bm G;exact⟨_,.cons aC q1 k1,by rw[fV];omega⟩
theorem rL.chain {p:Int->Int} {ok:Nat->Bool} {L:List bw} {de aS C:List Int} (h:rL R p Q ok s N v cU S L de aS C):∃l,pq Q (oZ aS) v l/\l.length<=N:=by
 obtain⟨bc,h1,h2,ap,bl,cL,eI,gu,h9⟩:=h;obtain⟨l,k1,k2⟩:=ap.chain _ v cU h1.own (bY _);refine⟨l,k1,cM k2 (cM (aa' _ _) ?_)⟩;refine t6 N _ cL λx ak=>?_;rcases fJ.1 ak with ak|ak
 ·obtain⟨d,a9⟩:=h1.labelled x ak;exact bl x d a9
 ·rw[f2.1 ak];exact bl v cU h1.own
def xV (w:O) (v:ac) (L:List Bool):Prop:=
 ∃(a:Option cp) (cap:Nat),v=E a L.length cap/\L.length<=cap/\cap<=ff/\∀i (h:i<L.length),∃b off cs t fr,a=A (B b off)/\V w b cs t fr/\cs[off+i]? =A (aA L[i])
theorem xV.a_ {v:ac} {L:List Bool} (h:xV w v L) (K:bu w D):xV D v L:=by
 obtain⟨a,cap,e,h1,h2,ap⟩:=h;refine⟨a,cap,e,h1,h2,λi ag=>?_⟩;obtain⟨b,off,cs,t,fr,a8,hb,ah⟩:=ap i ag;exact⟨b,off,cs,t,fr,a8,K.aH hb,ah⟩
theorem xV.at {cap:Nat} {L:List Bool} (h:xV w (E a n cap) L) k (K:k<L.length):∃b off,a=A (B b off)/\w.cell? (B b (off+k))=A (aA L[k]):=by
 obtain⟨fM,nl,e,_,_,ap⟩:=h;obtain⟨b,off,cs,t,fr,a8,hb,ah⟩:=ap k K;have en:=(FJ e).1;exact⟨b,off,by rw[en,a8],by rw[hb.cell];exact ah⟩
def ev (pi:List Int) (v:Int):Int:=pi[v.toNat]?.getD 0
def ox (aG:List Bool) (n:Nat):Bool:=if aG.length=0 then ad else aG[n]?.getD ao
theorem apj {c0 cI:ac} (hb:V w bn #[c0,cI,cB,cy] 206) (aP:cR w cy pi) {v:Nat} (aK:pi.length=0\/v<pi.length) (aw:pi.length<=1000000) (TL:∀x∈pi,0<=x):Ez w bn v (ev pi v):=by
 unfold Ez;have ch:=aR hb 3;obtain⟨a,R,rfl,_⟩:=id aP;by_cases h0:pi.length=0
 ·have e:ev pi v=0:=by unfold ev;rw[yo G];rfl
  rw[e];rw[h0] at ch;clear aP aK aw hb TL;go_in;go_wp2_with fail;go_ret;exact⟨rfl,rfl⟩
 ·have a0:v<pi.length:=G;obtain⟨b,off,rfl,d⟩:=aP.at v a0;have e:ev pi v=pi[v]:=by unfold ev;rw[ko,eA a0];rfl
  have mi:=TL pi[v] (gB a0);rw[e];obtain⟨y,az⟩:=al (pi[v]);rw[<-az] at d mi⊢;obtain⟨M,dU⟩:=al pi.length;rw[<-dU] at ch h0 a0 aw;have Hb:(M:Int)≠0:=G;have wo:=ew M;have wH:(v:Int)<M:=G;have aDD:max (-72057594037927936) y=y:=G;clear aP aK hb e az dU TL;go_in;go_wp2_with fail;go_ret;exact⟨rfl,rfl⟩
def Oh (w:O) (bn:Nat) (v:Int) (b:Bool):Prop:=aE aa 210 #[r c v,J bn 0] w λe D=>e=au (aA b)/\D=w
theorem apk {c0 cI:ac} (hb:V w bn #[c0,cI,cB,cy] 206) (aP:xV w cB aG) {v:Nat} (aK:aG.length=0\/v<aG.length) (aw:aG.length<=1000000):Oh w bn v (ox aG v):=by
 unfold Oh;have bb:=aR hb 2;obtain⟨a,R,rfl,_⟩:=id aP;by_cases h0:aG.length=0
 ·have e:ox aG v=ad:=if_pos h0;rw[e];rw[h0] at bb;clear aP aK aw hb;go_in;go_wp2_with fail;go_ret;exact⟨rfl,rfl⟩
 ·have a0:v<aG.length:=G;obtain⟨b,off,rfl,d⟩:=aP.at v a0;have e:ox aG v=aG[v]:=by unfold ox;rw[if_neg h0,eA a0];rfl
  rw[e];obtain⟨y,az⟩:=al (aG[v]);rw[<-az] at d⊢;obtain⟨M,dU⟩:=al aG.length;rw[<-dU] at bb h0 a0 aw;have Hb:(M:Int)≠0:=G;have wo:=ew M;have wH:(v:Int)<M:=G;clear aP aK hb e az dU;go_in;go_wp2_with fail;go_ret;have hb:((M:Int)==0)=ao:=beq_false_of_ne Hb;refine⟨?_,rfl⟩;rw[hb];rfl
theorem acA:(prog.info? 310).map (λi=>(i.zero,i.size,i.bytes))=A (A (aZ #[r c 0,r c 0,r c 0,r c 0]),4,32):=bq
theorem acB {ab:Nat} {a7:Nat->Prop} {L:List bw} {de aS:List Int} (h:kT w q af p ab N aW bs aY bn bo a7 L de aS bL aD) (is:aD<=1000000) (c0 cI dB hX:ac) (ak:∀x∈[c0,cI,dB,hX],x.oneCell'=ad) {ka:Nat} (hj:ae w u) (cd:V u ka #[c0,cI,dB,hX] 310):
 ∃a n R D,(qN #[46,46] 46 #[bo,E (A (B ka 0)) 1 1]).run aa u= .ok (E a n R) D/\(∃z,D.cell? (B q 7)=A z)/\D.frozen? (B q 7)=ao/\D.cell? (B q 0)=A (J af 0)/\
  kT (D.setCell (B q 7) (E a n R)) q af p ab N aW bs aY bn (E a n R) a7 L de aS bL (aD+1)/\Kept (λk=>k=q\/bo.ownBlock=A k) w (D.setCell (B q 7) (E a n R))/\∀k,(iB a n R).ownBlock=A k->bo.ownBlock=A k\/w.heap.size<=k:=by
 obtain⟨eP,ag,fL,gi,gt⟩:=m6 acA;obtain⟨b7,fZ⟩:=h.kM;have aB:r_ 4 u (E (A (B ka 0)) 1 1) 1 [c0,cI,dB,hX]:=⟨rfl,ak,_,1,rfl,bY _,by unfold ff;omega,λj y az=>⟨ka,0,rfl,by rw[jC,cd.cell,la];exact az⟩⟩;have TM:=h.below hj;obtain⟨ce,TN⟩:=TM.kM;obtain⟨ca,D,ar,aQ,hg,gP,_⟩:=tU (P:=aa) 0 46 46 310 eP _ 4 32 underlying46 ag fL gi gt rfl G bo aD _ TN _ 1 _ aB (by unfold ff;omega) G (cQ _);obtain⟨a,n,R,rfl⟩:∃a n R,ca=E a n R:=by
  obtain⟨_,h2⟩:=aQ;rcases h2 with⟨e,_⟩|⟨g,R,cur,e,_⟩
  ·exact⟨_,_,_,e⟩
  ·exact⟨_,_,_,e⟩
 obtain⟨a1,a2,dX,jc,np⟩:=h.apart;have yz:∀k,k<u.heap.size->bo.ownBlock≠A k->D.heap[k]? =u.heap[k]? :=λk K aC=>hg.block k K (λe=>aC e.symm);have iP:∀k,k<w.heap.size->bo.ownBlock≠A k->D.heap[k]? =w.heap[k]? :=λk K aC=>(yz k (jP K hj.size) aC).trans (hj.block k K);obtain⟨q1,q2,bm,cZ,ek⟩:=h.xF;have EA:∀{b:Nat} {cs:Array ac} {t:cY} {fr:Nat×Nat},V w b cs t fr->t≠310->bo.ownBlock≠A b:=λhb ht e=>Co h hb ht _ e rfl;have nZ:V D q #[J af 0,J p 0,E (A (B aW 0)) N N,E (A (B bs 0)) N N,E (A (B aY 0)) N N,.func (.func 210) #[] #[J bn 0],.func (.func 211) #[] #[J bn 0],bo] 307:=(iP q q1 (EA h.aH bj)).trans h.aH;have EB:∀k,(iB a n R).ownBlock=A k->bo.ownBlock=A k\/w.heap.size<=k:=λk K=>by
  rcases gP with e|e
  ·exact .inl (e▸K)
  ·rw[e] at K;exact .inr (g3 (eT K) hj.size)
 have Ad:∀k,(iB a n R).ownBlock=A k->k≠q:=λk K e=>by
  subst e;rcases EB k K with a4|a4
  ·exact EA h.aH bj a4
  ·omega
 have hK:∀j,j≠q->(D.setCell (B q 7) (E a n R)).heap[j]? =D.heap[j]? :=λj av=>d7 _ _ _ _ av;have hP:w.heap.size<=D.heap.size:=cM hj.size hg.size;have ol:∀{b:Nat} {cs:Array ac} {t:cY} {fr:Nat×Nat},V w b cs t fr->t≠307->b≠q:=λ{b cs t fr} hb ht e=>by
  subst e;exact ht (er hb h.aH)
 refine⟨a,n,R,D,ar,⟨_,nZ.cell 7⟩,nZ.free 7 (.inr (cQ _)),nZ.cell 0,⟨nZ.set 7 _,h.heap.dy (by simpa using hP) (λk K=>(hK k (λe=>a1 (e▸K))).trans (iP k (h.heap.lt K) (λe=>np k e K))),?_,h.vy,?_,h.Cn,?_,h.vz,⟨_,fB aQ λk K=>hK k (Ad k K)⟩,⟨a1,a2,dX,jc,λk K hf=>?_⟩,h.dR⟩,?_,EB⟩
 ·exact(hK _ (ol h.pV bj)).trans ((iP aW q2 (EA h.pV bj)).trans h.pV)
 ·exact(hK _ (ol h.rK bj)).trans ((iP bs bm (EA h.rK bj)).trans h.rK)
 ·exact(hK _ (ol h.qz bj)).trans ((iP aY cZ (EA h.qz bj)).trans h.qz)
 ·rcases EB k K with e|e
  ·exact np k e hf
  ·have:=h.heap.lt hf;omega
 ·refine Kept.setCell ⟨hg.os.trans hj.os,hg.tape.trans hj.tape,hg.output.trans hj.output,hP,λk K aC=>iP k K λe=>aC (.inr e)⟩ (.inl rfl) _
def re (q aW bs aY:Nat) (bo:ac) (a7:Nat->Prop) (k:Nat):Prop:=a7 k\/k=q\/k=aW\/k=bs\/k=aY\/bo.ownBlock=A k
structure pW (bH:O) (am:Nat) (s t:Int) (cB cy:ac) (w:O) (q af p ab N aW bs aY bn:Nat) (bo:ac) (a7:Nat->Prop) (L:List bw) (de aS:List Int) (bL:List Bool) (aD:Nat):Prop where
 ij:kT w q af p ab N aW bs aY bn bo a7 L de aS bL aD
 EC:V w bn #[r c s,r c t,cB,cy] 206
 acC:¬a7 bn
 below:bQ am bH w
 low:∀k,re q aW bs aY bo a7 k->am<=k
 lo_le:am<=w.heap.size
theorem kT.acD {ab:Nat} {a7:Nat->Prop} {L:List bw} {de aS:List Int} (h:kT w q af p ab N aW bs aY bn bo a7 L de aS bL aD) {t:cY} (hb:V w b cs t fr) (hf:¬a7 b) (h1:t≠307) (h2:t≠2) (ap:t≠3) (bl:t≠4) (cL:t≠310):¬re q aW bs aY bo a7 b:=λK=>by
 rcases K with K|K|K|K|K|K
 ·exact hf K
 ·subst K;exact h1 (er hb h.aH)
 ·subst K;exact h2 (er hb h.pV)
 ·subst K;exact ap (er hb h.rK)
 ·subst K;exact bl (er hb h.qz)
 ·exact Co h hb cL _ K rfl
theorem pW.next {ab:Nat} {a7:Nat->Prop} {L:List bw} {de aS:List Int} (h:pW bH am s t cB cy w q af p ab N aW bs aY bn bo a7 L de aS bL aD) {pr pX:List Int} {acE:List Bool} {iW:Nat}
 (fx:kT D q af p ab N aW bs aY bn gH hi c' pr pX acE iW) (K:Kept (re q aW bs aY bo a7) w D) (hF:∀k,hi k->a7 k\/w.heap.size<=k) (aK:∀k,gH.ownBlock=A k->bo.ownBlock=A k\/w.heap.size<=k):
 pW bH am s t cB cy D q af p ab N aW bs aY bn gH hi c' pr pX acE iW:=by
 refine⟨fx,K.aH h.EC (h.ij.acD h.EC h.acC bj bj bj bj bj),λhf=>?_,h.below.trans (K.below h.lo_le h.low),λk eQ=>?_,cM h.lo_le K.size⟩
 ·rcases hF _ hf with e|e
  ·exact h.acC e
  ·have:=h.EC.lt;omega
 ·have aw:=h.lo_le;rcases eQ with e|e|e|e|e|e
  ·rcases hF _ e with e|e
   ·exact h.low k (.inl e)
   ·omega
  ·exact h.low k (.inr (.inl e))
  ·exact h.low k (.inr (.inr (.inl e)))
  ·exact h.low k (.inr (.inr (.inr (.inl e))))
  ·exact h.low k (.inr (.inr (.inr (.inr (.inl e)))))
  ·rcases aK _ e with e|e
   ·exact h.low k (.inr (.inr (.inr (.inr (.inr e)))))
   ·omega
theorem pW.more {ab:Nat} {a7:Nat->Prop} {L:List bw} {de aS:List Int} (h:pW bH am s t cB cy w q af p ab N aW bs aY bn bo a7 L de aS bL aD) (hb:ae w D):pW bH am s t cB cy D q af p ab N aW bs aY bn bo a7 L de aS bL aD:=
 h.next (h.ij.below hb) (Kept.bg hb) (λ_ h=> .inl h) (λ_ h=> .inl h)
def iX (x:Int):Bool:=decide (-72057594037927936<x)&&decide (x<72057594037927936)
theorem apl {cV:Option cp} {cF:Nat} (aO:w.cell? (B q 4)=A (E cV pi.length cF)) (aP:cR w (E cV pi.length cF) pi) {v:Nat} (aK:pi.length=0\/v<pi.length) (aw:pi.length<=1000000):
 aE aa 217 #[J q 0,r c v] w λe D=>e=au (b8 #[r c (ev pi v),aA (iX (ev pi v))])/\D=w:=by
 by_cases h0:pi.length=0
 ·have e:ev pi v=0:=by unfold ev;rw[yo G];rfl
  rw[e,show iX 0=ad from by decide];rw[h0] at aO;clear aP aK aw e;go_in;go_wp2_with fail
  go_ret2
  exact⟨rfl,rfl⟩
 ·have a0:v<pi.length:=G;obtain⟨b,off,rfl,d⟩:=aP.at v a0;have e:ev pi v=pi[v]:=by unfold ev;rw[ko,eA a0];rfl
  rw[e];obtain⟨y,az⟩:=al (pi[v]);rw[<-az] at d⊢;obtain⟨M,dU⟩:=al pi.length;rw[<-dU] at aO h0 a0 aw;have Hb:(M:Int)≠0:=G;have wo:=ew M;have wH:(v:Int)<M:=G;clear aP aK e az dU;by_cases h1:-72057594037927936<y
  ·by_cases h2:y<72057594037927936
   ·have aQ:iX y=ad:=by unfold iX;rw[decide_eq_true h1,decide_eq_true h2];rfl
    rw[aQ];go_in;go_wp2_with fail
    go_ret2
    exact⟨rfl,rfl⟩
   ·have aQ:iX y=ao:=by unfold iX;rw[decide_eq_true h1,decide_eq_false h2];rfl
    rw[aQ];go_in;go_wp2_with fail
    go_ret2
    exact⟨rfl,rfl⟩
  ·have aQ:iX y=ao:=by unfold iX;rw[decide_eq_false h1];rfl
   rw[aQ];go_in;go_wp2_with fail
   go_ret2
   exact⟨rfl,rfl⟩
theorem apm (a:bd) (u:O):aE aa 133 #[aZ #[r c a.1,r c a.2.1,r c a.2.2]] u λe D=>e=au (r c a.2.1)/\ae u D:=by
 obtain⟨gG,a1,a2⟩:=a;go_in;go_wp2_with fail;go_ret;exact⟨rfl,fb⟩
theorem apn (a:bd) (u:O):aE aa 134 #[aZ #[r c a.1,r c a.2.1,r c a.2.2]] u λe D=>e=au (r c a.1)/\ae u D:=by
 obtain⟨gG,a1,a2⟩:=a;go_in;go_wp2_with fail;go_ret;exact⟨rfl,fb⟩
theorem Oi (Q:List bd) (ok:Nat->Bool):fa (Q.map kF) ok=(fa Q ok).map kF:=by
 unfold fa;rw[iT,List.map_filterMap]
 congr 1
 funext n;by_cases q:ok n=ad
 ·rw[if_pos q,if_pos q,w']
 ·rw[if_neg q,if_neg q];rfl
structure vA (R:Int) (p:Int->Int) (Q:List bd) (ok:Nat->Bool) (s:Int) (N:Nat) (L:List bw) (bc:Int->Option Int) (cA:Int->Int) (C:List Int):Prop where
 Hc:nt (fa Q ok) s bc C
 holds:pk R p L bc C
 tree:nW Q s bc C cA
 y3:xG bc N
 nodup:C.Nodup
structure y4 (R:Int) (p:Int->Int) (Q:List bd) (ok:Nat->Bool) (s:Int) (N:Nat) (v cU:Int) (S:List bd) (L:List bw) (bc:Int->Option Int) (cA:Int->Int) (C:List Int):Prop where
 scan:sm (fa Q ok) s bc C v cU S
 holds:pk R p L bc (C++[v])
 tree:nW Q s bc (C++[v]) cA
 y3:xG bc N
 nodup:(C++[v]).Nodup
theorem vA.begin (R:Int) (p:Int->Int) (Q:List bd) (ok:Nat->Bool) (s:Int) (N:Nat) (aB:0<=s/\s<N) {L:List bw} (hL:∀x,x∈L↔x=(s,p s)) {cA:Int->Int} (ha:cA s=-1):vA R p Q ok s N L (gb (λ_=>T) s 0) cA []:=by
 refine⟨nt.begin _ s,λx=>?_,nW.begin _ _ _ ha,xG.set (λv d h=>by cases h) aB 0,QM⟩;rw[hL];constructor
 ·rintro rfl;exact⟨0,nc _ _ _,a3,a3⟩
 ·rintro⟨d,h1,_,ap⟩;by_cases e:x.1=s
  ·rw[e,nc] at h1;obtain rfl:=eT h1;exact XN e (by rw[ap,e];simp)
  ·rw[kG _ _ e] at h1;cases h1
theorem vA.dR {p:Int->Int} {ok:Nat->Bool} {L:List bw} {bc:Int->Option Int} {cA:Int->Int} {C:List Int} (h:vA R p Q ok s N L bc cA C):C.length<=N:=by
 refine t6 N C h.nodup λv aK=>?_;obtain⟨d,a9⟩:=h.Hc.labelled v aK;exact h.y3 v d a9
theorem vA.pop (ah:0<R) {p:Int->Int} {ok:Nat->Bool} {L:List bw} {bc:Int->Option Int} {cA:Int->Int} {C:List Int} (h:vA R p Q ok s N L bc cA C) (aP:∀a∈fa Q ok,p a.1<=R*a.2.2+p a.2.1) {k:Int} (hm:(v,k)∈L) (tZ:∀x∈L,k<=x.2) (vn:∀x,x∈c'↔x∈L/\x.1≠v):
 ∃d,v∉C/\(0<=v/\v<N)/\k=R*d+p v/\f_ (fa Q ok) s v d/\bc v=A d/\(C++[v]).length<=N/\y4 R p Q ok s N v d [] c' bc cA C:=by
 obtain⟨d,q1,q2,bm,cZ,ek⟩:=h.Hc.Ji ah aP h.holds hm tZ;have ar:=h.y3 v d q1;have hnd:=S8 h.nodup q2;refine⟨d,q2,ar,bm,cZ,q1,?_,ek,h.holds.pop vn,h.tree.close q2,h.y3,hnd⟩;refine t6 N _ hnd λx ak=>?_;rcases fJ.1 ak with ak|ak
 ·obtain⟨d,a9⟩:=h.Hc.labelled x ak;exact h.y3 x d a9
 ·rw[f2.1 ak];exact ar
theorem y4.a_ {p:Int->Int} {ok:Nat->Bool} {L:List bw} {bc:Int->Option Int} {cA:Int->Int} {C:List Int} (h:y4 R p Q ok s N v cU S L bc cA C) (aC:n<Q.length) (bK:ok n=ad) (aK:Q[n].1=v)
 (az:Q[n].2.1∈C++[v]\/∃d,bc Q[n].2.1=A d/\d<=cU+Q[n].2.2):y4 R p Q ok s N v cU (S++[Q[n]]) L bc cA C:=by
 have ha:Q[n]∈fa Q ok:=sx.2 ⟨n,aC,bK,rfl⟩;rcases az with az|⟨d,a9,hle⟩
 ·exact⟨h.scan.closed ha aK az,h.holds,h.tree,h.y3,h.nodup⟩
 ·exact⟨h.scan.a_ a9 hle,h.holds,h.tree,h.y3,h.nodup⟩
theorem y4.set {p:Int->Int} {ok:Nat->Bool} {L:List bw} {bc:Int->Option Int} {cA:Int->Int} {C:List Int} (h:y4 R p Q ok s N v cU S L bc cA C) (bU:∀a∈Q,0<=a.2.2) (aC:n<Q.length) (bK:ok n=ad) (aK:Q[n].1=v) (pY:0<=Q[n].2.1/\Q[n].2.1<N)
 (ah:Q[n].2.1∉C++[v]) (a0:∀d,bc Q[n].2.1=A d->cU+Q[n].2.2<d) (vn:∀x,x∈c'↔x=(Q[n].2.1,R*(cU+Q[n].2.2)+p Q[n].2.1)\/(x∈L/\x.1≠Q[n].2.1)):
 y4 R p Q ok s N v cU (S++[Q[n]]) c' (gb bc Q[n].2.1 (cU+Q[n].2.2)) (Al cA Q[n].2.1 (n:Int)) C:=by
 have ha:Q[n]∈fa Q ok:=sx.2 ⟨n,aC,bK,rfl⟩;have J6:∀a∈fa Q ok,0<=a.2.2:=λa h=>bU a (y2 a h);have JD:Q[n].2.1∉C:=λhm=>ah (fJ.2 (.inl hm));have nU:Q[n].2.1≠v:=λe=>ah (fJ.2 (.inr (f2.2 e)));exact⟨h.scan.set J6 ha aK JD nU a0,h.holds.set ah vn,h.tree.set aC (cU+Q[n].2.2) (by rw[aK];exact fJ.2 (.inr (f2.2 rfl))) ⟨cU,by rw[aK];exact h.scan.own⟩ ah,h.y3.set pY _,h.nodup⟩
theorem y4.end {p:Int->Int} {ok:Nat->Bool} {L:List bw} {bc:Int->Option Int} {cA:Int->Int} {C:List Int} (h:y4 R p Q ok s N v cU S L bc cA C) (cb:∀n:Nat,∀aC:n<Q.length,ok n=ad->Q[n].1=v->Q[n]∈S):vA R p Q ok s N L bc cA (C++[v]):=
 ⟨h.scan.end λa ha he=>by
  obtain⟨n,aC,K,rfl⟩:=sx.1 ha;exact cb n aC K he,h.holds,h.tree,h.y3,h.nodup⟩
structure sy (ai:List bd) (s t:Int) (qp ob:Int->Option Int) (found meet:Int):Prop where
 le:∀v d e,qp v=A d->ob v=A e->found<=d+e
 walk:found=72057594037927936\/(dP ai s t found/\(∃d,qp meet=A d)/\∃e,ob meet=A e)
theorem sy.begin {ai:List bd} (hst:s≠t) (meet:Int):sy ai s t (gb (λ_=>T) s 0) (gb (λ_=>T) t 0) 72057594037927936 meet:=by
 refine⟨λv d e h1 h2=>?_,.inl rfl⟩;by_cases q:v=s
 ·rw[q,kG _ _ hst] at h2;cases h2
 ·rw[kG _ _ q] at h1;cases h1
theorem apo {bc:Int->Option Int} (h:∃e,bc x=A e):∃e,gb bc y d x=A e:=by
 by_cases q:x=y
 ·exact⟨d,by rw[q];exact nc _ _ _⟩
 ·rw[kG _ _ q];exact h
theorem sy.app {ai:List bd} (h:sy ai s t qp ob found meet) (h1:dP ai s y d) (h2:∀e,ob y=A e->dP (ai.map kF) t y e):
 (∀e,ob y=A e->found<=d+e->sy ai s t (gb qp y d) ob found meet)/\(ob y=T->sy ai s t (gb qp y d) ob found meet)/\∀e,ob y=A e->d+e<found->sy ai s t (gb qp y d) ob (d+e) y:=by
 have bU:found=72057594037927936\/(dP ai s t found/\(∃z,gb qp y d meet=A z)/\∃e,ob meet=A e):=h.walk.imp id λ⟨a,b,R⟩=>⟨a,apo b,R⟩;refine⟨λe he hle=>⟨λv dS fm k1 k2=>?_,bU⟩,λaC=>⟨λv dS fm k1 k2=>?_,bU⟩,λe he a0=>⟨λv dS fm k1 k2=>?_,.inr ⟨h1.trans (dP.z9.1 (h2 e he)),⟨d,nc _ _ _⟩,e,he⟩⟩⟩
 ·by_cases q:v=y
  ·rw[q,nc] at k1;rw[q,he] at k2;obtain rfl:=eT k1;obtain rfl:=eT k2;exact hle
  ·rw[kG _ _ q] at k1;exact h.le v dS fm k1 k2
 ·by_cases q:v=y
  ·rw[q,aC] at k2;cases k2
  ·rw[kG _ _ q] at k1;exact h.le v dS fm k1 k2
 ·by_cases q:v=y
  ·rw[q,nc] at k1;rw[q,he] at k2;obtain rfl:=eT k1;obtain rfl:=eT k2;exact rZ _
  ·rw[kG _ _ q] at k1;have:=h.le v dS fm k1 k2;omega
theorem sy.flip {ai:List bd} (h:sy ai s t qp ob found meet):sy (ai.map kF) t s ob qp found meet:=
 ⟨λv d e k1 k2=>by have:=h.le v e d k2 k1;omega,h.walk.imp id λ⟨a,b,R⟩=>⟨a.rev,R,b⟩⟩
theorem sy.done (bK:g.e2) {ok:Nat->Bool} (aB:0<=s/\s<g.nodes) {p:Int->Int} {hx t9:List bw} {apq apr:Int->Int} {jf jL:List Int} (hb:Raw.e2 {g with arcs:=fa g.arcs ok})
 (h1:vA 2 p g.arcs ok s N hx qp apq jf) (h2:vA 2 (λv=>-p v) (g.arcs.map kF) ok t N t9 ob apr jL) (hm:sy (fa g.arcs ok) s t qp ob found meet) (aP:∀a∈fa g.arcs ok,p a.1<=2*a.2.2+p a.2.1)
 (D3:(∀x,x∉hx)\/(∀x,x∉t9)\/∃a b,(∀x∈hx,a<=x.2)/\(∀x∈t9,b<=x.2)/\2*found<=a+b):c1 (fa g.arcs ok) s t=found:=by
 have hK:=h2.Hc;rw[Oi] at hK;have hle:∀e,dP (fa g.arcs ok) s t e->found<=e:=λe he=>alX h1.Hc hK hm.le aP (by
  rcases D3 with h|h|⟨a,b,ha,fi,zS⟩
  ·exact .inl λx kv ak=>by
    by_cases ah:x∈jf
    ·exact ah
    ·exact absurd (h1.holds.key ak ah) (h _)
  ·exact .inr (.inl λx kv ak=>by
    by_cases ah:x∈jL
    ·exact ah
    ·exact absurd (h2.holds.key ak ah) (h _))
  ·refine .inr (.inr ⟨a,b,λx kv ak aw=>ha _ (h1.holds.key aw ak),λx kv ak aw=>?_,zS⟩);have:=fi _ (h2.holds.key aw ak);simp only at this;omega) he
 have J6:∀a∈fa g.arcs ok,0<=a.2.2:=λa h=>(bK.aS a (y2 a h)).2.2.1;rcases hm.walk with h|⟨h,_⟩
 ·rw[h];refine z_ λd a9=>?_;obtain⟨dS,fy⟩:=f_.BU J6 a9;have sr:=f_.bound (g:={g with arcs:=fa g.arcs ok}) hb aB fy;have:=hle dS fy.1;omega
 ·exact sl ⟨h,hle⟩
theorem vA.chain {p:Int->Int} {ok:Nat->Bool} {L:List bw} {bc:Int->Option Int} {cA:Int->Int} {C:List Int} (h:vA R p Q ok s N L bc cA C) (aK:bc v=A d):∃l,pq Q cA v l/\l.length<=N:=by
 obtain⟨l,k1,k2⟩:=h.tree.chain _ v d aK (bY _);exact⟨l,k1,cM k2 (cM (aa' _ _) h.dR)⟩
structure hC where
 cD:Nat
 aP:Nat
 hm:Nat
 lm:Nat
 ab:Nat
 bX:Nat
 dO:Int
 iK:Int
 h6:ac
 eL:ac
structure f5 where
 a7:Nat->Prop
 L:List bw
 bc:Int->Option Int
 dL:Int->Option Int
 C:List Int
def Hd (w:O) (N M:Nat) (aT:hC) (aI:f5):Prop:=e5 aI.a7 w aT.cD aT.aP aT.hm aT.lm aT.ab aT.bX N aT.dO aT.iK aT.h6 aT.eL aI.L aI.bc aI.dL aI.C M
def n0 (aT:hC) (aI:f5) (k:Nat):Prop:=Cm aI.a7 aT.cD aT.lm aT.ab aT.bX k
structure TO (w:O) (q af N M aD:Nat) (s t:Int) (cB cy bo:ac) (found meet:Int) (ik f7:hC) (gT ez:f5):Prop where
 aH:V w q #[J af 0,r c s,r c t,cB,cy,J ik.cD 0,J f7.cD 0,r c found,E T 0 0,bo,r c meet] 217
 m2:Hd w N M ik gT
 s1:Hd w N M f7 ez
 Cp:∀k,n0 ik gT k->¬n0 f7 ez k
 kM:∃b7,w.ownsRow 0 310 4 bo aD b7
 nq:¬n0 ik gT q/\¬n0 f7 ez q
 wK:∀k,bo.ownBlock=A k->¬n0 ik gT k/\¬n0 f7 ez k
theorem Oj {F:Nat->Prop} {ab:Nat} {n:Int} {L:List bw} (h:i8 F w p ab n L):∃k b,aE aa 219 #[J p 0] w (λe D=>e=au (b8 #[r c k,aA b])/\D=w)/\((b=ad/\(∃v,(v,k)∈L)/\∀x∈L,k<=x.2)\/(b=ao/\∀x,x∉L)):=by
 by_cases hL:∃y,y∈L
 ·obtain⟨y,az⟩:=hL;obtain⟨id,key,h1,h2,ap⟩:=am0 h az;exact⟨key,ad,ap,.inl ⟨rfl,⟨id,h1⟩,h2⟩⟩
 ·have aC:∀y,y∉L:=λy az=>hL ⟨y,az⟩;exact⟨0,ao,am1 h aC,.inr ⟨rfl,aC⟩⟩
def He (ik f7:hC) (TP hx:List bw) (found:Int) (e:Ending):Prop:=
 (e=au (a6 T)/\((∀x,x∉TP)\/(∀x,x∉hx)\/∃a b,(∀x∈TP,a<=x.2)/\(∀x∈hx,b<=x.2)/\2*found<=a+b))\/
 (e=au (J ik.cD 0)/\∃x,x∈TP)\/(e=au (J f7.cD 0)/\∃x,x∈hx)
theorem aps {ik f7:hC} {gT ez:f5} (h:TO w q af N M aD s t cB cy bo found meet ik f7 gT ez) (hf:0<=found/\found<=72057594037927936) (h0:∀x∈gT.L,-1152921504606846976<=x.2/\x.2<=1152921504606846976) (h1:∀x∈ez.L,-1152921504606846976<=x.2/\x.2<=1152921504606846976):
 aE aa 136 #[J q 0] w λe D=>He ik f7 gT.L ez.L found e/\D=w:=by
 obtain⟨a,kC,gX,ha⟩:=Oj h.m2.heap;obtain⟨b,TQ,fC,hb⟩:=Oj h.s1.heap;have gl:=aR h.aH 5;have kf:=aR h.aH 6;have lM:=aR h.aH 7;have d0:=aR (e5.aH h.m2) 0;have e0:=aR (e5.aH h.s1) 0;have gX:=I gX;have fC:=I fC;obtain⟨p0,Cq⟩:=al ik.cD;obtain⟨p1,q5⟩:=al f7.cD;rw[<-Cq] at gl d0;rw[<-q5] at kf e0;have e_:=db Cq q5;clear h Cq q5;rcases ha with⟨rfl,⟨v0,q9⟩,nk⟩|⟨rfl,nk⟩
 ·rcases hb with⟨rfl,⟨v1,h5⟩,ED⟩|⟨rfl,ED⟩
  ·have q0:=h0 _ q9;have q1:=h1 _ h5;simp only at q0 q1;obtain⟨JU,Ci⟩:=al (a+b);obtain⟨Af,Ok⟩:=al (2*found);have bA:IntKind.i64.wrap (a+b)=JU:=by rw[Ci];exact o7 _ G
   have cK:IntKind.i64.wrap (2*found)=Af:=by rw[Ok];exact o7 _ G
   by_cases hst:Af<=JU
   ·have cW:=I (show He ik f7 gT.L ez.L found (au (a6 T)) from .inl ⟨rfl,.inr (.inr ⟨a,b,nk,ED,G⟩)⟩);clear nk ED q9 h5 Ci Ok q0 q1 h0 h1 hf;go_in;go_wp2_with fail;refine eO gX.o ?_;go_wp2_with fail;refine eO fC.o ?_;go_wp2_with fail;go_ret;exact⟨cW.o,rfl⟩
   ·by_cases hle:a<=b
    ·have cW:=I (show He ik f7 gT.L ez.L found (au (J p0 0)) from .inr (.inl ⟨by rw[e_.o.1],_,q9⟩));clear nk ED q9 h5 Ci Ok q0 q1 h0 h1 hf;go_in;go_wp2_with fail;refine eO gX.o ?_;go_wp2_with fail;refine eO fC.o ?_;go_wp2_with fail;go_ret;exact⟨cW.o,rfl⟩
    ·have cW:=I (show He ik f7 gT.L ez.L found (au (J p1 0)) from .inr (.inr ⟨by rw[e_.o.2],_,h5⟩));clear nk ED q9 h5 Ci Ok q0 q1 h0 h1 hf;go_in;go_wp2_with fail;refine eO gX.o ?_;go_wp2_with fail;refine eO fC.o ?_;go_wp2_with fail;go_ret;exact⟨cW.o,rfl⟩
  ·have cW:=I (show He ik f7 gT.L ez.L found (au (a6 T)) from .inl ⟨rfl,.inr (.inl ED)⟩);clear nk ED q9 h0 h1 hf;go_in;go_wp2_with fail;refine eO gX.o ?_;go_wp2_with fail;refine eO fC.o ?_;go_wp2_with fail;go_ret;exact⟨cW.o,rfl⟩
 ·have cW:=I (show He ik f7 gT.L ez.L found (au (a6 T)) from .inl ⟨rfl,.inl nk⟩);clear nk hb h0 h1 hf;go_in;go_wp2_with fail;refine eO gX.o ?_;go_wp2_with fail;refine eO fC.o ?_;go_wp2_with fail;go_ret;exact⟨cW.o,rfl⟩
def kj (g:Raw) (aG:List Bool) (pi:List Int) (n:Nat):Bool:=ox aG n&&decide (ev pi (gw g n).2.1<72057594037927936)
structure rf (bH:O) (am af:Nat) (g:Raw) (N:Nat) (s t:Int) (aG:List Bool) (pi:List Int) (cB cy:ac):Prop where
 dR:jz g N
 kS:eq bH af g
 Ol:xV bH cB aG
 Om:cR bH cy pi
 TR:aG.length=0\/aG.length=g.arcs.length
 J7:pi.length=0\/pi.length=N
 pos:∀x∈pi,0<=x
 low:am=bH.heap.size
 y5:0<=s/\s<N
 EE:0<=t/\t<N
 t7:∀a∈fa g.arcs (kj g aG pi),ev pi a.1<=1*a.2.2+ev pi a.2.1
 cl:72057594037927936<=ev pi s->∀d,¬dP (fa g.arcs (kj g aG pi)) s t d
theorem rf.ms (h:rf bH am af g N s t aG pi cB cy) (v:Int):0<=ev pi v:=by
 unfold ev;cases e:pi[v.toNat]? with
 |none=>exact rZ _
 |some x=>exact h.pos x (L9 e)
theorem rf.acF (h:rf bH am af g N s t aG pi cB cy) (hb:V w bn #[r c s,r c t,cB,cy] 206) (gQ:bQ am bH w) {v:Nat} (aK:v<N):Ez w bn v (ev pi v):=by
 have:=h.dR.jo;have aP:=h.J7;rw[h.low] at gQ;exact apj hb (h.Om.a_ (bu.bg gQ)) G G h.pos
theorem rf.apt (h:rf bH am af g N s t aG pi cB cy) (hb:V w bn #[r c s,r c t,cB,cy] 206) (gQ:bQ am bH w) (aC:n<g.arcs.length):Oh w bn n (ox aG n):=by
 have:=h.dR.po;have aP:=h.TR;rw[h.low] at gQ;exact apk hb (h.Ol.a_ (bu.bg gQ)) G G
def Hf (bL:List Bool) (C:List Int):Prop:=∀i:Nat,i<bL.length->bL[i]? =A (decide ((i:Int)∈C))
def sz (q aW bs aY:Nat) (W D:O) (bo:ac) (a7:Nat->Prop) (gH:ac) (hi:Nat->Prop):Prop:=
 Kept (re q aW bs aY bo a7) W D/\(∀k,hi k->a7 k\/W.heap.size<=k)/\∀k,gH.ownBlock=A k->bo.ownBlock=A k\/W.heap.size<=k
theorem sz.refl (q aW bs aY:Nat) (W:O) (bo:ac) (a7:Nat->Prop):sz q aW bs aY W W bo a7 bo a7:=⟨Kept.refl _ _,λ_ h=> .inl h,λ_ h=> .inl h⟩
theorem sz.J8 {a7:Nat->Prop} (h:sz q aW bs aY W D bo a7 gH hi) (K:re q aW bs aY gH hi k):re q aW bs aY bo a7 k\/W.heap.size<=k:=by
 rcases K with e|e|e|e|e|e
 ·rcases h.2.1 k e with e|e
  ·exact .inl (.inl e)
  ·exact .inr e
 ·exact .inl (.inr (.inl e))
 ·exact .inl (.inr (.inr (.inl e)))
 ·exact .inl (.inr (.inr (.inr (.inl e))))
 ·exact .inl (.inr (.inr (.inr (.inr (.inl e)))))
 ·rcases h.2.2 k e with e|e
  ·exact .inl (.inr (.inr (.inr (.inr (.inr e)))))
  ·exact .inr e
theorem sz.trans {Q aF:O} {AC:ac} {a7 wE:Nat->Prop} (h:sz q aW bs aY Q ai bo a7 gH hi) (k:sz q aW bs aY ai aF gH hi AC wE):sz q aW bs aY Q aF bo a7 AC wE:=by
 refine⟨⟨k.1.os.trans h.1.os,k.1.tape.trans h.1.tape,k.1.output.trans h.1.output,cM h.1.size k.1.size,λj av aC=>?_⟩,λj av=>?_,λj av=>?_⟩
 ·refine(k.1.block j (jP av h.1.size) (λhf=>?_)).trans (h.1.block j av aC);rcases h.J8 hf with e|e
  ·exact aC e
  ·omega
 ·rcases k.2.1 j av with e|e
  ·exact h.2.1 j e
  ·exact .inr (cM h.1.size e)
 ·rcases k.2.2 j av with e|e
  ·exact h.2.2 j e
  ·exact .inr (cM h.1.size e)
theorem sz.aH {a7:Nat->Prop} (h:sz q aW bs aY W D bo a7 gH hi) {t:cY} (hb:V W b cs t fr) (aC:¬re q aW bs aY bo a7 b):V D b cs t fr/\¬re q aW bs aY gH hi b:=
 ⟨h.1.aH hb aC,λhf=>by
  rcases h.J8 hf with e|e
  ·exact aC e
  ·have:=hb.lt;omega⟩
theorem kT.acG {ab:Nat} {a7:Nat->Prop} {L:List bw} {de aS:List Int} (h:kT w q af p ab N aW bs aY bn bo a7 L de aS bL aD) (K:re q aW bs aY bo a7 k):k<w.heap.size:=by
 obtain⟨q1,q2,bm,cZ,ek⟩:=h.xF;rcases K with e|rfl|rfl|rfl|rfl|e
 ·exact h.heap.lt e
 ·exact q1
 ·exact q2
 ·exact bm
 ·exact cZ
 ·exact ek k e
theorem sz.row {ab:Nat} {a7:Nat->Prop} {L:List bw} {de aS:List Int} (h:kT w q af p ab N aW bs aY bn bo a7 L de aS bL aD) {ay:O} {e:cY} {J9:Nat} {v:ac} {b7:List ac} (ar:ay.ownsRow w.heap.size e J9 v n b7) (J_:sz q aW bs aY ay wr bo a7 gH hi):wr.ownsRow w.heap.size e J9 v n b7:=
 fB ar λk K=>J_.1.block k ((di ar K).2.choose_spec.lt) λhf=>by
  have h1:=(ar.lt k K).1;have h2:=h.acG hf;omega
theorem rL.own {p:Int->Int} {ok:Nat->Bool} {L:List bw} {de aS C:List Int} (h:rL R p Q ok s N v cU S L de aS C):de[v.toNat]? =A cU:=by
 obtain⟨bc,h1,_,_,_,_,eI,_⟩:=h;exact eI v cU h1.own
def qA (bH:O) (am:Nat) (g:Raw) (s t:Int) (aG:List Bool) (pi:List Int) (cB cy:ac) (W:O) (q af p ab N aW bs aY bn:Nat) (bo:ac) (a7:Nat->Prop) (bL:List Bool) (aD:Nat) (C:List Int) (v d:Int) (aj:List Int) (k:Nat) (wr:O):Prop:=
 ∃gH hi c' pr pX iW S,pW bH am s t cB cy wr q af p ab N aW bs aY bn gH hi c' pr pX bL iW/\rL 1 (ev pi) g.arcs (kj g aG pi) s N v d S c' pr pX C/\
  (∀j,j<k->∀n:Nat,aj[j]? =A (n:Int)->kj g aG pi n=ad->gw g n∈S)/\iW<=aD/\sz q aW bs aY W wr bo a7 gH hi
theorem qA.more {ab:Nat} {a7:Nat->Prop} {C:List Int} (h:qA bH am g s t aG pi cB cy W q af p ab N aW bs aY bn bo a7 bL aD C v d aj k wr) (hb:ae wr D):qA bH am g s t aG pi cB cy W q af p ab N aW bs aY bn bo a7 bL aD C v d aj k D:=by
 obtain⟨gH,hi,c',pr,pX,iW,S,h1,h2,ap,bl,cL⟩:=h;exact⟨gH,hi,c',pr,pX,iW,S,h1.more hb,h2,ap,bl,cL.trans ⟨Kept.bg hb,λ_ h=> .inl h,λ_ h=> .inl h⟩⟩
theorem qA.event {ab:Nat} {a7:Nat->Prop} {C:List Int} (h:qA bH am g s t aG pi cB cy W q af p ab N aW bs aY bn bo a7 bL aD C v d aj k wr) (is:aD<=1000000) (c0 cI dB hX:ac) (ak:∀x∈[c0,cI,dB,hX],x.oneCell'=ad) (Z:u=wr.alloc (an #[c0,cI,dB,hX] 310)):
 ∃aN eu dw,wr.cell? (B q 7)=A (E aN eu dw)/\u.cell? (B q 7)=A (E aN eu dw)/\∃a m R D,(qN #[46,46] 46 #[E aN eu dw,E (A (B wr.heap.size 0)) 1 1]).run aa u= .ok (E a m R) D/\(∃z,D.cell? (B q 7)=A z)/\D.frozen? (B q 7)=ao/\D.cell? (B q 0)=A (J af 0)/\qA bH am g s t aG pi cB cy W q af p ab N aW bs aY bn bo a7 bL (aD+1) C v d aj k (D.setCell (B q 7) (E a m R)):=by
 obtain⟨gH,hi,c',pr,pX,iW,S,h1,h2,ap,bl,cL⟩:=h;have hj:=dx Z;obtain⟨a,m,R,D,p1,p2,e8,p0,i6,rE,ul⟩:=acB h1.ij G c0 cI dB hX ak hj (by rw[Z];exact V.new _ _ _ _);obtain⟨b7,J'⟩:=h1.ij.kM;obtain⟨aN,eu,dw,rfl⟩:∃a n R,gH=E a n R:=by
  obtain⟨_,r2⟩:=J';rcases r2 with⟨e,_⟩|⟨g,R,cur,e,_⟩
  ·exact⟨_,_,_,e⟩
  ·exact⟨_,_,_,e⟩
 have n8:Kept (re q aW bs aY (E aN eu dw) hi) wr (D.setCell (B q 7) (E a m R)):=rE.mono λk K=>K.elim (λe=> .inr (.inl e)) λe=> .inr (.inr (.inr (.inr (.inr e))));refine⟨aN,eu,dw,h1.ij.aH.cell 7,(h1.ij.below hj).aH.cell 7,a,m,R,D,p1,p2,e8,p0,_,_,_,_,_,_,S,h1.next i6 n8 (λ_ h=> .inl h) ul,h2,ap,G,cL.trans ⟨n8,λ_ h=> .inl h,ul⟩⟩
theorem qA.grow {ab:Nat} {a7:Nat->Prop} {C:List Int} (h:qA bH am g s t aG pi cB cy W q af p ab N aW bs aY bn bo a7 bL aD C v d aj k wr) (dU:aD<=M):qA bH am g s t aG pi cB cy W q af p ab N aW bs aY bn bo a7 bL M C v d aj k wr:=by
 obtain⟨gH,hi,c',pr,pX,iW,S,h1,h2,ap,bl,cL⟩:=h;exact⟨gH,hi,c',pr,pX,iW,S,h1,h2,ap,cM bl dU,cL⟩
theorem qA.skip {ab:Nat} {a7:Nat->Prop} {C:List Int} (h:qA bH am g s t aG pi cB cy W q af p ab N aW bs aY bn bo a7 bL aD C v d aj k wr) (aC:aj[k]? =A (n:Int)) (hf:ox aG n=ao):qA bH am g s t aG pi cB cy W q af p ab N aW bs aY bn bo a7 bL aD C v d aj (k+1) wr:=by
 obtain⟨gH,hi,c',pr,pX,iW,S,h1,h2,ap,bl,cL⟩:=h;refine⟨gH,hi,c',pr,pX,iW,S,h1,h2,λj av iC rM aQ=>?_,bl,cL⟩;by_cases e:j=k
 ·subst e;rw[aC] at rM;have:iC=n:=bI (eT rM);subst this;unfold kj at aQ;rw[hf] at aQ;cases aQ
 ·exact ap j G iC rM aQ
theorem qA.reach (ah:rf bH am af g N s t aG pi cB cy) {ab:Nat} {a7:Nat->Prop} {C:List Int} {v:Nat} (mh:Hf bL (C++[(v:Int)])) (a9:0<=d/\d<72057594037927936) (h:qA bH am g s t aG pi cB cy W q af p ab N aW bs aY bn bo a7 bL aD C (v:Int) d aj k wr) (aC:aj[k]? =A (n:Int)) (qB:n<g.arcs.length) (aK:ns g.arcs[n]=(v:Int)) (hf:ox aG n=ad):
 ∃y:Nat,(gw g n).2.1=(y:Int)/\aE aa 212 #[J q 0,r c y,r c (d+(gw g n).2.2),r c n] wr λe D=>e=au (b8 #[])/\qA bH am g s t aG pi cB cy W q af p ab N aW bs aY bn bo a7 bL aD C (v:Int) d aj (k+1) D:=by
 obtain⟨gH,hi,c',pr,pX,iW,S,h1,h2,ap,bl,cL⟩:=h;have lN:gw g n=g.arcs[n]:=oY qB;have bK:=ah.dR.ok.aS _ (gB qB);have az:0<=g.arcs[n].2.1/\g.arcs[n].2.1<(N:Int):=by rw[ah.dR.nodes];exact bK.2.1
 obtain⟨y,Ka⟩:∃y:Nat,g.arcs[n].2.1=(y:Int):=⟨g.arcs[n].2.1.toNat,G⟩;have pY:y<N:=G;have lB:=ah.acF h1.EC h1.below pY;have acz:=ah.ms y;have sU:=mh y (by rw[h1.ij.vz];exact pY);have oK:∀jh:List bd,(∀a∈S,a∈jh)->(kj g aG pi n=ad->g.arcs[n]∈jh)->∀j,j<k+1->∀iC:Nat,aj[j]? =A (iC:Int)->kj g aG pi iC=ad->gw g iC∈jh:=λjh fP me j av iC rM aQ=>by
  by_cases e:j=k
  ·subst e;rw[aC] at rM;have:iC=n:=bI (eT rM);subst this;rw[lN];exact me aQ
  ·exact fP _ (ap j G iC rM aQ)
 refine⟨y,by rw[lN];exact Ka,?_⟩;rw[lN];have G3:∀jh:List bd,(∀a∈S,a∈jh)->(kj g aG pi n=ad->g.arcs[n]∈jh)->rL 1 (ev pi) g.arcs (kj g aG pi) s N (v:Int) d jh c' pr pX C->qA bH am g s t aG pi cB cy W q af p ab N aW bs aY bn bo a7 bL aD C (v:Int) d aj (k+1) wr:=λjh q1 q2 bm=>
  ⟨gH,hi,c',pr,pX,iW,jh,h1,bm,oK jh q1 q2,G,cL⟩
 by_cases iR:ev pi y<72057594037927936
 ·have apu:kj g aG pi n=ad:=by
   unfold kj;rw[lN,Ka,hf,decide_eq_true iR];rfl
  have tY:=h2.step (λa ha=>(ah.dR.ok.aS a ha).2.2.1) qB apu aK (by exact az);rw[Ka,ko] at tY;have nM:∀a∈S,a∈S++[g.arcs[n]]:=λa ha=>fJ.2 (.inl ha);have me:kj g aG pi n=ad->g.arcs[n]∈S++[g.arcs[n]]:=λ_=>fJ.2 (.inr (f2.2 rfl));rcases tY with⟨hm,cb⟩|⟨hm,⟨e,q1,q2,bm,cb⟩|⟨q1,q2⟩⟩
  ·rw[decide_eq_true hm] at sU;refine dl (Od h1.ij pY lB _ _ (.inl sU)) λD fx=>?_;subst D;exact⟨rfl,G3 _ nM me cb⟩
  ·rw[decide_eq_false hm] at sU;refine dl (Od h1.ij pY lB _ _ (.inr ⟨sU,.inr ⟨iR,_,e,q1,q2,bm⟩⟩)) λD fx=>?_;subst D;exact⟨rfl,G3 _ nM me cb⟩
  ·rw[decide_eq_false hm] at sU;refine(acy h1.ij pY lB _ _ ⟨G,iR⟩ (bI bK.2.2) sU (λhY eQ=>?_)).mono ?_
   ·obtain⟨e,r1,r2,eC⟩:=q1 hY eQ;exact⟨e,G,r2,eC⟩
   rintro e D ⟨rfl,t9,wE,r1,r2,eC,mv⟩;have n8:Kept (re q aW bs aY gH hi) wr D:=eC.mono λk K=>K.elim (λe=> .inl e) λe=>e.elim (λe=> .inr (.inr (.inl e))) λe=> .inr (.inr (.inr (.inl e)));exact⟨rfl,_,_,_,_,_,_,_,h1.next r1 n8 mv (λ_ h=> .inl h),q2 t9 (by intro x;rw[r2 x,aiD]),oK _ nM me,G,cL.trans ⟨n8,mv,λ_ h=> .inl h⟩⟩
 ·have On:kj g aG pi n≠ad:=by
   unfold kj;rw[lN,Ka,decide_eq_false iR];simp
  have apv:bL[y]? =A ad\/(bL[y]? =A ao/\(72057594037927936<=ev pi y\/(ev pi y<72057594037927936/\∃k e,((y:Int),k)∈c'/\pr[y]? =A e/\e<=d+g.arcs[n].2.2))):=by
   by_cases hm:(y:Int)∈C++[(v:Int)]
   ·rw[decide_eq_true hm] at sU;exact .inl sU
   ·rw[decide_eq_false hm] at sU;exact .inr ⟨sU,.inl G⟩
  refine dl (Od h1.ij pY lB _ _ apv) λD fx=>?_;subst D;exact⟨rfl,G3 S (λ_ h=>h) (λh=>absurd h On) h2⟩
theorem Hg (p:Nat) (g:Raw) (w:O) (h:eq w p g):aE aa 63 #[J p 0] w λe D=>e=au (r c g.arcs.length)/\D=w:=by
 obtain⟨cP,cC,eR,ey,dG,fF,cx,c2,vi,vk,dD,vj,bR,aV,bb,ch,gR,gl,ak,az,ha,aQ,ag⟩:=h.cells;clear h ak az ha aQ ag bR aV bb gR gl;go_in;go_wp2_with fail;go_ret;exact⟨rfl,rfl⟩
theorem acH {m:Nat} (hm:m=0\/m=n) (aw:m<=1000000) (w:O):aE aa 216 #[r c m,r c n] w λe D=>e=au (aA ad)/\D=w:=by
 by_cases h0:m=0
 ·subst h0;go_in;go_wp2_with fail;go_ret;exact⟨rfl,rfl⟩
 ·obtain rfl:m=n:=G;have Kb:(m:Int)≠0:=G;go_in;go_wp2_with fail;go_ret;refine⟨?_,rfl⟩;first|rfl|(simp[Kb])
theorem apw (b1:(N:Int)=g.nodes) (hb:V w a' #[J af 0] 62) (dE:eq w af g) (x:Int) (ak:0<=x/\x<N):aE aa 215 #[r c x,J a' 0] w λe D=>e=au (aA ad)/\D=w:=by
 have gn:=I (l3 af g w dE);have bR:=aR hb 0;obtain⟨h0,h1⟩:=ak;rw[b1] at h1;clear dE hb b1;go_in;go_wp2_with fail;refine eO gn.o ?_;go_wp2_with fail;go_ret;exact⟨rfl,rfl⟩
theorem apx (iH:jz g N) (dE:eq w af g) (aB:0<=s/\s<N) (ht:0<=t/\t<N) (xW:aG.length=0\/aG.length=g.arcs.length) (lB:pi.length=0\/pi.length=N) {eG:Option cp} {ix:Nat} {cV:Option cp} {cF:Nat}:
 aE aa 131 #[J af 0,aZ #[r c s,r c t,E eG aG.length ix,E cV pi.length cF]] w λe D=>e=au (aA ad)/\ae w D:=by
 obtain⟨a',eB⟩:=al w.heap.size;obtain⟨bk,el⟩:=al (a'+1);obtain⟨ay,bA⟩:=al ((w.alloc (an #[J af 0] 62)).alloc (an #[r c s,r c t,E eG aG.length ix,E cV pi.length cF] 206));have aX:=oQ bA;have k2:V ay a' #[J af 0] 62:=by rw[bA,eB];exact(V.new _ _ _ _).alloc _
 have k3:V ay bk #[r c s,r c t,E eG aG.length ix,E cV pi.length cF] 206:=by
  have k:=V.new (w.alloc (an #[J af 0] 62)) #[r c s,r c t,E eG aG.length ix,E cV pi.length cF] 206 (0,0);rw[d8] at k;rw[bA,el,eB];exact k
 have b1:=iH.nodes;have vB:=iH.jo;have acI:=iH.po;have m0:aM (∀u,ae ay u->eq u af g):=λu Z=>dE.a_ (bu.bg (aX.next' Z));have pZ:aM (∀u,ae ay u->∀x,0<=x/\x<(N:Int)->aE aa 215 #[r c x,J a' 0] u λe D=>e=au (aA ad)/\D=u):=λu Z x ak=>apw b1 (k2.aq Z) (m0.o u Z) x ak;have rN:aM (∀u,ae ay u->aE aa 63 #[J af 0] u λe D=>e=au (r c (g.arcs.length:Nat))/\D=u):=λu Z=>Hg af g u (m0.o u Z);have gn:aM (∀u,ae ay u->aE aa 27 #[J af 0] u λe D=>e=au (r c N)/\D=u):=λu Z=>by rw[b1];exact l3 af g u (m0.o u Z)
 have Kc:=I xW;have wz:=I lB;have TS:=I aB;have TT:=I ht;have TU:=I (show aG.length<=1000000 from bI Kc.o);have TV:=I (show pi.length<=1000000 from bI wz.o);have cj:aM (∀u,ae ay u->u.cell? (B a' 0)=A (J af 0)/\u.cell? (B bk 0)=A (r c s)/\u.cell? (B bk 1)=A (r c t)/\u.cell? (B bk 2)=A (E eG aG.length ix)/\u.cell? (B bk 3)=A (E cV pi.length cF)):=λu Z=>⟨(k2.aq Z).cell 0,(k3.aq Z).cell 0,(k3.aq Z).cell 1,(k3.aq Z).cell 2,(k3.aq Z).cell 3⟩;have d':=I (show ae ay ay from bx _ _);have cX:=I bA;have ft:=I aX;have g_:=@hJ aa;clear iH dE bA aX k2 k3 b1 xW lB aB ht;go_in;go_wp2_with fail;rw[<-cX.o,<-eB,<-el];clear eB el;refine jj (S:=λD=>D.cell? (B a' 0)=A (J af 0)/\D.cell? (B bk 0)=A (r c s)/\D.cell? (B bk 1)=A (r c t)/\D.cell? (B bk 2)=A (E eG aG.length ix)/\D.cell? (B bk 3)=A (E cV pi.length cF)) rfl ?_;have ax:=cj.o ay.drew (d'.o.drew);change wpAnyH _ _ _ _ _ 29 _ _ ay.drew;have bf:=I (d'.o.drew);repeat refine fA ?_
 refine fs 3 ?_;refine gE 215 (pZ.o ay.drew bf.o s TS.o) ?_;rintro _ _ ⟨⟨rfl⟩,rfl⟩;refine⟨ax,?_⟩;simp only[bN,bM,bO];repeat refine fA ?_
 refine fs 8 ?_;refine gE 215 (pZ.o ay.drew bf.o t TT.o) ?_;rintro _ _ ⟨⟨rfl⟩,rfl⟩;refine⟨ax,?_⟩;simp only[bN,bM,bO];repeat refine fA ?_
 refine fs 16 ?_;refine gE 63 (rN.o ay.drew bf.o) ?_;rintro _ _ ⟨⟨rfl⟩,rfl⟩;refine⟨ax,?_⟩;simp only[bN,bM,bO];refine fs 17 ?_;refine gE 216 (acH Kc.o TU.o ay.drew) ?_;rintro _ _ ⟨⟨rfl⟩,rfl⟩;refine⟨ax,?_⟩;simp only[bN,bM,bO];repeat refine fA ?_
 refine fs 25 ?_;refine gE 27 (gn.o ay.drew bf.o) ?_;rintro _ _ ⟨⟨rfl⟩,rfl⟩;refine⟨ax,?_⟩;simp only[bN,bM,bO];refine fs 26 ?_;refine gE 216 (acH wz.o TV.o ay.drew) ?_;rintro _ _ ⟨⟨rfl⟩,rfl⟩;refine⟨ax,?_⟩;simp only[bN,bM,bO];repeat refine fA ?_
 refine i4 ?_;go_wp2_with fail;go_ret;exact⟨rfl,ft.o.next' bf.o⟩
structure Cr (w:O) (af:Nat) (g:Raw) (cc a' q cD ab eL N:Nat) (dL:Int->Option Int):Prop where
 kS:eq w af g
 cO:V w cc #[J cD 0] 214
 cq:V w a' #[J q 0] 213
 q0:∃cs fr,V w q cs 217 fr/\cs[0]? =A (J af 0)
 u3:∃cs fr,V w cD cs 315 fr/\cs[4]? =A (.func (.func eL) #[] #[])/\cs[6]? =A (.map (A ab))
 cA:∃n,jM 3 w ab n dL
theorem Cr.below {cD ab eL:Nat} {dL:Int->Option Int} (h:Cr w af g cc a' q cD ab eL N dL) (hb:ae w D):Cr D af g cc a' q cD ab eL N dL:=by
 obtain⟨aV,f6,k1,k2⟩:=h.q0;obtain⟨bb,eF,k3,k4⟩:=h.u3;obtain⟨n,m⟩:=h.cA;exact⟨h.kS.a_ (bu.bg hb),h.cO.aq hb,h.cq.aq hb,⟨aV,f6,k1.aq hb,k2⟩,⟨bb,eF,k3.aq hb,k4⟩,⟨n,m.dy (hb.block _ m.lt)⟩⟩
theorem apy {cD ab eL:Nat} {dL:Int->Option Int} (h:Cr w af g cc a' q cD ab eL N dL) (aK:-9223372036854775808<=v/\v<=9223372036854775807) (hb:(dL v).getD 0<0):
 aE aa 221 #[r c v,J cc 0,J a' 0] w λe D=>e=au (b8 #[r c 0,r c 0,aA ao])/\D=w:=by
 obtain⟨cs,fr,k3,k4,k5⟩:=h.u3;obtain⟨n,m⟩:=h.cA;have aw:=m.look BW aK;have aV:=aR h.cO 0;have kf:w.cell? (B cD 6)=A (.map (A ab)):=by rw[k3.cell];exact k5
 obtain⟨x,ak⟩:=al ((dL v).getD 0);rw[<-ak] at aw hb;clear h k3 k4 k5 m ak;go_in;go_wp2_with fail
 go_ret3
 exact⟨rfl,rfl⟩
theorem apz {cD ab eL:Nat} {dL:Int->Option Int} (h:Cr w af g cc a' q cD ab eL N dL) (bK:g.e2) (is:∀a u,aE aa eL #[aZ #[r c a.1,r c a.2.1,r c a.2.2]] u λe D=>e=au (r c (fz a))/\ae u D) (apA:∀args w,(gM eL args).run aa w= .ok (.enter eL args) w) (aK:-9223372036854775808<=v/\v<=9223372036854775807) (hb:(dL v).getD 0=(n:Int)) (aC:n<g.arcs.length) (ar:0<=fz g.arcs[n]/\fz g.arcs[n]<=16777216):
 aE aa 221 #[r c v,J cc 0,J a' 0] w λe D=>e=au (b8 #[r c n,r c (g.arcs[n].1+g.arcs[n].2.1-fz g.arcs[n]),aA ad])/\ae w D:=by
 obtain⟨bR,aDE,n4,rn⟩:=h.q0;obtain⟨cs,fr,k3,k4,k5⟩:=h.u3;obtain⟨tm,m⟩:=h.cA;have aw:=m.look BW aK;rw[hb] at aw;have aV:=aR h.cO 0;have bb:=aR h.cq 0;have kf:w.cell? (B cD 6)=A (.map (A ab)):=by rw[k3.cell];exact k5
 have apB:w.cell? (B q 0)=A (J af 0):=by rw[n4.cell];exact rn
 have hA:=D_ af g n w h.kS;rw[if_pos ⟨G,G⟩,decide_eq_true (show 0<=(n:Int)/\(n:Int)<g.arcs.length from⟨G,G⟩),ko] at hA;change aE _ _ _ _ (λe D=>e=au (b8 #[vl (gw g n),aA ad])/\ae w D) at hA;rw[oY aC] at hA;have lN:=bK.aS _ (gB aC);have hnd:=bK.nodes;obtain⟨gG,pj⟩:=al (g.arcs[n].1);obtain⟨a1,oi⟩:=al (g.arcs[n].2.1);obtain⟨a2,wy⟩:=al (g.arcs[n].2.2);have acJ:fz g.arcs[n]=fz (gG,a1,a2):=by rw[pj,oi,wy]
 unfold wd at lN;unfold vl at hA;rw[<-pj,<-oi,<-wy] at hA lN;rw[acJ] at ar⊢;rw[<-pj,<-oi];obtain⟨Kd,Ap⟩:=al (fz (gG,a1,a2));have cH:aM (∀u,aE aa eL #[aZ #[r c gG,r c a1,r c a2]] u λe D=>e=au (r c Kd)/\ae u D):=λu=>by rw[Ap];exact is (gG,a1,a2) u
 rw[<-Ap] at ar⊢;obtain⟨qs,xX⟩:=al (gG+a1-Kd);have bA:IntKind.i64.wrap (gG+a1)=gG+a1:=o7 _ G;have cK:IntKind.i64.wrap (gG+a1-Kd)=qs:=by rw[xX];exact o7 _ G
 rw[<-xX];have dM:=I hA;have bP:=I h;have r':=ew n;clear h n4 rn k3 k4 k5 m hA is hb acJ Ap xX pj oi wy lN hnd bK ar;go_in;go_wp2_with fail;refine dl dM.o λaJ a5=>?_;obtain⟨ci,g5⟩:=al aJ.heap.size;obtain⟨ba,cg⟩:=al (aJ.alloc (an #[r c gG,r c a1,r c a2] 57));have ck:ae w ba:=a5.next' (by rw[cg];exact fb);have te:=eK cg g5;have cj:aM (∀u,ae ba u->u.cell? (B cc 0)=A (J cD 0)/\u.cell? (B cD 4)=A (.func (.func eL) #[] #[])/\u.cell? (B ci 0)=A (r c gG)/\u.cell? (B ci 1)=A (r c a1)/\u.cell? (B ci 2)=A (r c a2)):=λu Z=>by
  have cd:=bP.o.below (ck.next' Z);obtain⟨cs,fr,k3,k4,_⟩:=cd.u3;exact⟨cd.cO.cell 0,by rw[k3.cell];exact k4,(te.aq Z).cell 0,(te.aq Z).cell 1,(te.aq Z).cell 2⟩
 have d':=I (show ae ba ba from bx _ _);have dh:=I ck;have h4:=I cg;have t3:=I g5;clear a5 g5 cg ck te dM aV bb kf apB aw;go_wp2_with fail;rw[<-h4.o,<-t3.o];refine jj (S:=λD=>D.cell? (B cc 0)=A (J cD 0)/\D.cell? (B cD 4)=A (.func (.func eL) #[] #[])/\D.cell? (B ci 0)=A (r c gG)/\D.cell? (B ci 1)=A (r c a1)/\D.cell? (B ci 2)=A (r c a2)) rfl ?_;have ax:=cj.o ba.drew (d'.o.drew);change wpAnyH _ _ _ _ _ 16 _ _ ba.drew;have bf:=I (d'.o.drew);refine eZ 0 (r c n) ax ?_;refine eZ 1 (J ci 0) ax ?_;refine eZ 2 (r c gG) ax ?_;refine eZ 3 (J ci 1) ax ?_;refine eZ 4 (r c a1) ax ?_;refine eZ 5 (r c (gG+a1)) ax ?_;refine eZ 6 (J cD 0) ax ?_;refine eZ 7 (J cD 0) ax ?_;refine eZ 8 (J cD 4) ax ?_;refine eZ 9 (.func (.func eL) #[] #[]) ax ?_;refine eZ 10 (aZ #[r c gG,r c a1,r c a2]) ax ?_;refine fs 11 ?_;refine gE eL (cH.o ba.drew) ?_;rintro yY kw ⟨⟨rfl⟩,hb⟩;have ef:=I (bf.o.trans (hb.mono bf.o.size))
 replace bf:=ef
 clear ef hb ax;have ax:=cj.o kw bf.o;refine⟨ax,?_⟩;simp only[bN,bM,bO];repeat refine fA ?_
 refine i4 ?_;go_wp2_with fail
 go_ret3
 exact⟨rfl,dh.o.next' bf.o⟩
def lenOf:ac->Nat
 |E _ n _=>n
 |_=>0
def acK (Q:List bd) (cA:Int->Int) (rest:List Int) (x y:Int) (b:Bool):Prop:=
 (b=ao/\rest=[])\/(b=ad/\∃l,rest=x::l/\pq Q cA y l/\0<=y/\y<=16777216)
structure Oo (af:Nat) (g:Raw) (cc a' q cD ab eL N:Nat) (dL:Int->Option Int) (fz:bd->Int) (Q:List bd):Prop where
 ok:g.e2
 fn:∀a u,aE aa eL #[aZ #[r c a.1,r c a.2.1,r c a.2.2]] u λe D=>e=au (r c (fz a))/\ae u D
 bt:∀args w,(gM eL args).run aa w= .ok (.enter eL args) w
 len:Q.length=g.arcs.length
 tail:∀n,∀h:n<Q.length,∀h2:n<g.arcs.length,Q[n].1=g.arcs[n].1+g.arcs[n].2.1-fz g.arcs[n]
 hS:∀a∈g.arcs,0<=fz a/\fz a<=16777216
 apC:∀a∈Q,0<=a.1/\a.1<=16777216
theorem Oo.step {cD ab eL:Nat} {dL:Int->Option Int} (aT:Oo af g cc a' q cD ab eL N dL fz Q) (h:Cr w af g cc a' q cD ab eL N dL) (aK:0<=v/\v<=16777216) {rest:List Int} (ah:pq Q (λu=>(dL u).getD 0) v rest):
 ∃x y b,aE aa 221 #[r c v,J cc 0,J a' 0] w (λe D=>e=au (b8 #[r c x,r c y,aA b])/\ae w D)/\acK Q (λu=>(dL u).getD 0) rest x y b:=by
 rcases ah with aC|⟨aC,e,k⟩
 ·refine⟨0,0,ao,(apy h G G).mono ?_,.inl ⟨rfl,rfl⟩⟩;rintro e D ⟨rfl,fx⟩;subst D;exact⟨rfl,bx _ _⟩
 ·rename_i n l;have kA:n<g.arcs.length:=by rw[<-aT.len];exact aC
  refine⟨n,_,ad,apz h aT.ok aT.fn aT.bt G e kA (aT.hS _ (gB kA)),.inr ⟨rfl,l,rfl,?_,?_⟩⟩
  ·rw[<-aT.tail n aC kA];exact k
  ·rw[<-aT.tail n aC kA];exact aT.apC _ (gB aC)
def TW (w:O) (Q:List bd) (cA:Int->Int) (l:List Int) (o:ac) (x y:Int) (b:Bool) (wr:O):Prop:=
 ∃pre rest,pre++rest=l/\wr.ownsRow w.heap.size 3 1 o pre.length (pre.flatMap ec)/\ae w wr/\acK Q cA rest x y b
theorem apD {cD ab eL:Nat} {dL:Int->Option Int} (aT:Oo af g cc a' q cD ab eL N dL fz Q) (h:Cr w af g cc a' q cD ab eL N dL) (aK:0<=v/\v<=16777216) {l:List Int} (ah:pq Q (λu=>(dL u).getD 0) v l) (aw:l.length<=100000):
 aE aa 220 #[r c v,.func (.func 221) #[] #[J cc 0,J a' 0]] w λe D=>∃cV iY cF,e=au (E cV iY cF)/\D.ownsRow w.heap.size 3 1 (E cV iY cF) l.length (l.flatMap ec)/\ae w D:=by
 obtain⟨x,y,b,gX,aB⟩:=aT.step h aK ah;have gX:=I gX;have cj:=I aB;have cw:=I aT;have bP:=I h;go_in;go_wp2_with fail;refine dl gX.o λay aX=>?_;have hM:=I (show TW w Q (λu=>(dL u).getD 0) l (E T 0 0) x y b ay from⟨[],l,rfl,oG _ _ _ _,aX,cj.o⟩);go_wp2_with fail;go_loopw [4,5,6,7] (λo qs rF apE wr=>∃(cV:Option cp) (iY cF:Nat) (x y:Int) (b:Bool),o=E cV iY cF/\qs=r c x/\rF=r c y/\apE=aA b/\aM (TW w Q (λu=>(dL u).getD 0) l (E cV iY cF) x y b wr)) (λo _ _ _ _=>l.length+1-lenOf o)
 ·exact⟨_,_,_,x,y,b,rfl,rfl,rfl,rfl,hM⟩
 ·obtain⟨cV,iY,cF,x,y,b,rfl,rfl,rfl,rfl,cS⟩:=hrel;obtain⟨pre,rest,um,es,gQ,hst⟩:=cS.o;rcases hst with⟨rfl,Oq⟩|⟨rfl,mr,Oq,Ke,az⟩
  ·have nm:pre=l:=by rw[<-um,Oq,yn]
   subst nm;have cW:=db es gQ;go_wp2_with fail;go_ret;exact⟨_,_,_,rfl,cW.o.1,cW.o.2⟩
  ·obtain⟨j',so⟩:=al (wr.alloc (an #[r c x] 3));have mK:=dx so;have gS:=eK so rfl;have Hh:j'.ownsRow w.heap.size 3 1 (E cV iY cF) pre.length (pre.flatMap ec):=fB es λk K=>mK.block k (di es K).2.choose_spec.lt;have aDF:pre.length+1<=l.length:=by rw[<-um,Oq];simp
   obtain⟨a2,cm,bb,bi,hE,wL,kH,gP⟩:=Je w.heap.size _ pre x j' wr.heap.size Hh gS G (cM gQ.size mK.size);have Cb:ae w bi:=(gQ.next' mK|>λz=>z).grown kH (cM gQ.size mK.size) (λk K=>(Hh.lt k K).1);obtain⟨DB,Ot,qR,fC,hK⟩:=cw.o.step (bP.o.below Cb) az Ke;have B6:iY=pre.length:=by
    rcases es.2 with⟨e,h0⟩|⟨_,_,_,e,_⟩
    ·injection e with _ e _;omega
    ·injection e
   have kA:cm=pre.length+1:=by
    rcases wL.2 with⟨e,h0⟩|⟨_,_,_,e,_⟩
    ·simp at h0
    ·injection e with _ e _;simpa using e
   subst kA;subst B6;rw[so] at hE;have rC:=I hE;have fC:=I fC;have c9:aM (∀bD,ae bi bD->TW w Q (λu=>(dL u).getD 0) l (E a2 (pre.length+1) bb) DB Ot qR bD):=λbD cT=>⟨pre++[x],mr,by rw[<-um,Oq];simp,fB wL λk K=>cT.block k (di wL K).2.choose_spec.lt,Cb.next' cT,hK⟩;clear so;go_wp2_with(at_builtin;refine uX rfl _ _ _ _ rfl rC.o ?_)
   refine dl fC.o λbD cT=>?_;have apF:=I (c9.o bD cT);go_wp2_with fail;go_roundw
   ·exact⟨_,_,_,DB,Ot,qR,rfl,rfl,rfl,rfl,apF⟩
   ·simp only[lenOf];omega
theorem apG {cD ab eL:Nat} {dL:Int->Option Int} (aT:∀cc a',Oo af g cc a' q cD ab eL N dL fz Q)
 (dE:eq w af g) (aO:∃cs fr,V w q cs 217 fr/\cs[0]? =A (J af 0)) (aB:∃cs fr,V w cD cs 315 fr/\cs[4]? =A (.func (.func eL) #[] #[])/\cs[6]? =A (.map (A ab))) (xn:∃n,jM 3 w ab n dL)
 (hm:w.cell? (B q 10)=A (r c v)) (aK:0<=v/\v<=16777216) {l:List Int} (ah:pq Q (λu=>(dL u).getD 0) v l) (aw:l.length<=100000):
  aE aa 138 #[J q 0,J cD 0] w λe D=>∃cV iY cF,e=au (E cV iY cF)/\D.ownsRow w.heap.size 3 1 (E cV iY cF) l.length (l.flatMap ec)/\ae w D:=by
  obtain⟨aJ,cK⟩:=al ((w.alloc (an #[J q 0] 213)).alloc (an #[J cD 0] 214));have a5:=oQ cK;have k2:V aJ w.heap.size #[J q 0] 213:=by rw[cK];exact(V.new _ _ _ _).alloc _
  have k1:V aJ (w.heap.size+1) #[J cD 0] 214:=by
   have k:=V.new (w.alloc (an #[J q 0] 213)) #[J cD 0] 214 (0,0);rw[d8] at k;rw[cK];exact k
  have cd:Cr aJ af g (w.heap.size+1) w.heap.size q cD ab eL N dL:=by
   obtain⟨aV,f6,n4,rn⟩:=aO;obtain⟨bb,eF,apH,apI⟩:=aB;obtain⟨n,m⟩:=xn;exact⟨dE.a_ (bu.bg a5),k1,k2,⟨aV,f6,n4.aq a5,rn⟩,⟨bb,eF,apH.aq a5,apI⟩,⟨n,m.dy (a5.block _ m.lt)⟩⟩
  have EF:=I (apD (aT _ _) cd aK ah aw);have bb:=aR k2 0;have bX:aJ.cell? (B q 10)=A (r c v):=mP a5 hm;rw[cK] at bb bX;have dN:=I cK;have dT:=I a5;have g_:=@hJ aa;clear aT dE aO aB xn hm aK ah aw cK a5 k2 k1 cd;go_in;go_wp2_with fail;rw[<-dN.o];refine EF.o.mono ?_;rintro e ba ⟨cV,iY,cF,rfl,ar,ck⟩;have cW:=db ar ck;clear ar ck EF bb bX;go_wp2_with fail;go_ret;exact⟨_,_,_,rfl,Am cW.o.1 (λk K=>cM dT.o.size (cW.o.1.lt k K).1),dT.o.next' cW.o.2⟩
def apJ (bH:O) (am:Nat) (g:Raw) (s t:Int) (aG:List Bool) (pi:List Int) (cB cy:ac) (W:O) (q af p ab N aW bs aY bn:Nat) (bo:ac) (a7:Nat->Prop) (bL:List Bool) (aD:Nat) (C:List Int) (v:Int) (wr:O):Prop:=
 ∃gH hi c' pr pX iW,pW bH am s t cB cy wr q af p ab N aW bs aY bn gH hi c' pr pX bL iW/\xU 1 (ev pi) g.arcs (kj g aG pi) s N c' pr pX (C++[v])/\iW<=aD+84/\sz q aW bs aY W wr bo a7 gH hi
theorem apK (hf:jz g N) {v:Nat} (aK:v<N):(lj ns g v).length<=84:=by
 rw[Jy ns (by rw[<-hf.nodes];omega)];have:=BK ns g.arcs v g.arcs.length;have:=hf.po;omega
theorem apL (ah:rf bH am af g N s t aG pi cB cy) {ab:Nat} {a7:Nat->Prop} {L:List bw} {de aS:List Int} {C:List Int} {v:Nat} (oU:v<N) (mh:Hf bL (C++[(v:Int)])) (a9:0<=d/\d<72057594037927936)
 (bS:pW bH am s t cB cy W q af p ab N aW bs aY bn bo a7 L de aS bL aD) (cb:rL 1 (ev pi) g.arcs (kj g aG pi) s N (v:Int) d [] L de aS C) (is:aD<=100000):
 aE aa 214 #[J q 0,r c v] W λe D=>e=au (b8 #[])/\apJ bH am g s t aG pi cB cy W q af p ab N aW bs aY bn bo a7 bL aD C v D:=by
 have acL:∀w,bQ am bH w->eq w af g:=λw hb=>ah.kS.a_ (bu.bg (by rw[<-ah.low];exact hb));obtain⟨aj,cf⟩:=al (lj ns g v);have NI:=apK ah.dR oU;have wH:(v:Int)<g.nodes:=by rw[<-ah.dR.nodes];omega
 have eH:=I (SW af g v W (acL W bS.below) (JP (bI ah.dR.po)));rw[<-cf] at eH NI;have bR:=aR bS.ij.aH 0;have cW:=I cf;clear cf;go_in;go_wp2_with fail;refine eH.o.mono ?_;rintro e ay ⟨ca,rfl,es,aX⟩;obtain⟨wx,xg,rfl,aaX,ua,_⟩:=jv rfl es;unfold ff at ua;have h0:qA bH am g s t aG pi cB cy ay q af p ab N aW bs aY bn bo a7 bL (aD+0) C (v:Int) d aj 0 ay:=⟨bo,a7,L,de,aS,aD,[],bS.more aX,cb,λj av=>by omega,G,sz.refl _ _ _ _ _ _ _⟩;have hM:=I h0;go_wp2_with fail;go_loopw [15] (λu wr=>∃k:Nat,k<=aj.length/\u=r c k/\aM (qA bH am g s t aG pi cB cy ay q af p ab N aW bs aY bn bo a7 bL (aD+k) C (v:Int) d aj k wr)) (λu _=>aj.length-(cu u).toNat)
 ·exact⟨0,cQ _,rfl,hM⟩
 ·obtain⟨k,K,rfl,cw⟩:=hrel;by_cases a0:k<aj.length
  ·have ie:(k:Int)<aj.length:=G;have jl:=ew k;obtain⟨n,aC,qB,Ou⟩:=(B_ ns wH).1 (by rw[<-cW.o];exact gB a0);have Ej:aj[k]? =A (n:Int):=by rw[eA a0,aC]
   obtain⟨AC,wE,t9,acM,G6,fz,Ov,g',iE,jx,pM,y6⟩:=cw.o;have Js:=y6.row bS.ij es;obtain⟨b,off,rfl,d0⟩:=(jv rfl Js).at k a0;rw[aC] at d0;have bR:=aR g'.ij.aH 0;have gl:=aR g'.ij.aH 5;have lM:=aR g'.ij.aH 7;have yM:=ah.apt g'.EC g'.below qB;unfold Oh at yM;cases hf:ox aG n with
   |false=>
    rw[hf] at yM;have lp:=I ((cw.o.skip Ej hf).grow (M:=aD+(k+1)) G);go_wp2_with fail;refine eO yM ?_;go_wp2_with fail;go_roundw
    ·exact⟨k+1,a0,by go_num,lp⟩
    ·simp[cu];omega
   |true=>
    rw[hf] at yM;obtain⟨aN,eu,dw,wM,_,a,m,R,D,hE,⟨z,F0⟩,xe,e0,hst⟩:=cw.o.event G (r c 1) (r c 0) (r c n) (r c 0) (λx ak=>by simp only[gg,iS,or_false] at ak;rcases ak with rfl|rfl|rfl|rfl<;>rfl) rfl;rw[lM] at wM;obtain rfl:=eT wM;obtain⟨wN,TX⟩:=al (D.setCell (B q 7) (E a m R));rw[<-TX] at hst;have apM:=I TX;have i5:=I (hst.grow (M:=aD+(k+1)) G);have Hi:bQ am bH wN:=by
     obtain⟨_,_,_,_,_,_,_,g',_⟩:=hst;exact g'.below
    have apN:=acL wN Hi;clear TX;have dM:=D_ af g n wN apN;rw[if_pos ⟨G,G⟩,decide_eq_true (show 0<=(n:Int)/\(n:Int)<g.arcs.length from⟨G,G⟩),ko] at dM;change aE _ _ _ _ (λe D=>e=au (b8 #[vl (gw g n),aA ad])/\ae wN D) at dM;obtain⟨y,az,_⟩:=i5.o.reach ah mh a9 Ej qB Ou hf;obtain⟨gG,pj⟩:=al ((gw g n).1);obtain⟨nB,tn⟩:=al ((gw g n).2.2);unfold vl at dM;rw[<-pj,<-tn,az] at dM;have so:0<=nB/\nB<=2147483648:=by
     have:=ah.dR.ok.aS _ (gB qB);rw[tn,oY qB];have h2:=this.2.2;omega
    have apO:IntKind.i64.wrap (d+nB)=d+nB:=o7 _ G;have dd:=qV Ej Ou hf az tn;clear tn pj;go_wp2_with fail;refine eO yM ?_;go_wp2_with(at_builtin;refine uX rfl _ _ _ _ rfl hE ?_)
    rw[<-apM.o];go_wp2_with fail;refine dl dM λaJ a5=>?_;obtain⟨ci,g5⟩:=al aJ.heap.size;obtain⟨j',AD⟩:=al (aJ.alloc (an #[r c gG,r c y,r c nB] 57));have mK:ae wN j':=a5.next' (by rw[AD];exact fb);have te:=eK AD g5;have vC:=I (i5.o.more mK);have bC:aM (∀u,ae j' u->u.cell? (B q 2)=A (E (A (B aW 0)) N N)/\u.cell? (B aW v)=A (r c d)/\u.cell? (B ci 1)=A (r c y)/\u.cell? (B ci 2)=A (r c nB)):=λu Z=>by
     obtain⟨TY,aDG,aDH,aDI,aDJ,acN,acO,g',iE,_⟩:=(vC.o.more Z);have aw:=iE.own;rw[ko] at aw;obtain⟨ag,he⟩:=r4.1 aw;exact⟨g'.ij.aH.cell 2,by rw[g'.ij.pV.cell,kd _ _ _ ag,he],(te.aq Z).cell 1,(te.aq Z).cell 2⟩
    have TZ:aM (∀u,ae j' u->aE aa 212 #[J q 0,r c y,r c (d+nB),r c n] u λe D=>e=au (b8 #[])/\qA bH am g s t aG pi cB cy ay q af p ab N aW bs aY bn bo a7 bL (aD+(k+1)) C (v:Int) d aj (k+1) D):=λu Z=>by
     obtain⟨Ot,Oa,C⟩:=(vC.o.more Z).reach ah mh a9 dd.o.1 qB dd.o.2.1 dd.o.2.2.1;have:Ot=y:=bI dd.o.2.2.2.1;subst this;rw[<-dd.o.2.2.2.2] at C;exact C
    have t3:=I g5;have JA:=I AD;clear g5 AD;go_wp2_with fail;rw[<-JA.o,<-t3.o];refine jQ (λD=>D.cell? (B q 2)=A (E (A (B aW 0)) N N)/\D.cell? (B aW v)=A (r c d)/\D.cell? (B ci 1)=A (r c y)/\D.cell? (B ci 2)=A (r c nB)) 14 rfl ?_;change ej _ _ _ _ _ _ _ 15 _ _ j'.drew;obtain⟨et,dm⟩:=al j'.drew;have aL:=I (show ae j' et by rw[dm];exact(bx _ _).drew);rw[<-dm];clear dm;have ax:=bC.o _ aL.o;repeat first|refine fS ?_|refine ea ?_
    refine dJ 14 ?_;refine F1 (f:=212) rfl rfl (by rfl) (by go_simp) (TZ.o et aL.o) (λe ba ar=>?_);obtain⟨rfl,ap⟩:=ar;have JI:=I ap;refine⟨_,rfl,gj,?_⟩;simp only[bN,bM,bO];refine fc ?_;go_wp2_with fail;go_roundw
    ·exact⟨k+1,a0,by go_num,JI⟩
    ·simp[cu];omega
  ·obtain rfl:k=aj.length:=G;go_wp2_with fail;go_end0;obtain⟨AC,wE,t9,acM,G6,fz,Ov,g',iE,jx,pM,y6⟩:=cw.o;refine⟨rfl,AC,wE,t9,acM,G6,fz,g',iE.end λn aC bK he=>?_,G,?_⟩
   ·have h1:((n:Nat):Int)∈aj:=by rw[cW.o];exact(B_ ns wH).2 ⟨n,rfl,aC,he⟩
    obtain⟨j,av,e⟩:=Bd h1;rw[<-oY aC];exact jx j av n (by rw[eA av,e]) bK
   ·exact sz.trans (ai:=ay) (gH:=bo) (hi:=a7) ⟨Kept.bg aX,λ_ h=> .inl h,λ_ h=> .inl h⟩ y6
theorem apP {a b:List Bool} (h:iL a=iL b):a=b:=by
 unfold iL at h;have h2:=congrArg Array.toList h;simp only at h2;exact(List.map_inj_right (λ_ _ e=>by injection e)).1 h2
noncomputable def Ow (w:O) (aY:Nat):Nat:=by
 classical exact if h:∃bL,V w aY (iL bL) 4 (0,0) then h.choose.count ao else 0
theorem apQ (h:V w aY (iL bL) 4):Ow w aY=bL.count ao:=by
 have ak:∃bL,V w aY (iL bL) 4:=⟨bL,h⟩;unfold Ow;rw[dif_pos ak];have h2:=ak.choose_spec;have e:iL ak.choose=iL bL:=by
  have ap:A (Xi (iL ak.choose) 4 (0,0))=A (Xi (iL bL) 4 (0,0)):=(show w.heap[aY]? =_ from h2).symm.trans h;injection ap with ap
  injection ap
 rw[apP e]
def Hj (bH:O) (am:Nat) (g:Raw) (s t:Int) (aG:List Bool) (pi:List Int) (cB cy:ac) (q af p ab N aW bs aY bn fe:Nat) (kU:Nat) (w:O):Prop:=
 ∃bo a7 L de aS bL aD C,pW bH am s t cB cy w q af p ab N aW bs aY bn bo a7 L de aS bL aD/\(xU 1 (ev pi) g.arcs (kj g aG pi) s N L de aS C\/((∀x,x∉L)/\c1 (fa g.arcs (kj g aG pi)) s t=72057594037927936))/\Hf bL C/\t∉C/\aD<=85*C.length/\C.length<=N/\bL.count ao=kU/\V w fe #[r c 0,E T 0 0,E T 0 0] 202 (0,0)/\¬a7 fe
def apR (bH:O) (am:Nat) (g:Raw) (s t:Int) (aG:List Bool) (pi:List Int) (cB cy:ac) (q af p ab N aW bs aY bn fe:Nat) (w:O):Prop:=
 ∃bo a7 L de aS bL aD,pW bH am s t cB cy w q af p ab N aW bs aY bn bo a7 L de aS bL aD/\c1 (fa g.arcs (kj g aG pi)) s t=72057594037927936/\V w fe #[r c 0,E T 0 0,E T 0 0] 202 (0,0)/\¬a7 fe
def Kf (bH:O) (am:Nat) (g:Raw) (s t:Int) (aG:List Bool) (pi:List Int) (cB cy:ac) (q af p ab N aW bs aY bn fe:Nat) (kU:Nat) (v:Int) (w:O):Prop:=
 ∃bo a7 L de aS bL aD C d,pW bH am s t cB cy w q af p ab N aW bs aY bn bo a7 L de aS bL aD/\v∉C/\(0<=v/\v<N)/\f_ (fa g.arcs (kj g aG pi)) s v d/\rL 1 (ev pi) g.arcs (kj g aG pi) s N v d [] L de aS C/\Hf bL C/\t∉C/\aD<=85*C.length/\(C++[v]).length<=N/\bL.count ao=kU/\V w fe #[r c 0,E T 0 0,E T 0 0] 202 (0,0)/\¬a7 fe
def vD (bH:O) (am:Nat) (g:Raw) (s t:Int) (aG:List Bool) (pi:List Int) (cB cy:ac) (q af p ab N aW bs aY bn fe:Nat) (kU x:Nat) (v d:Int) (w:O):Prop:=
 ∃bo a7 L de aS bL aD C,pW bH am s t cB cy w q af p ab N aW bs aY bn bo a7 L de aS bL aD/\(0<=v/\v<N)/\f_ (fa g.arcs (kj g aG pi)) s v d/\rL 1 (ev pi) g.arcs (kj g aG pi) s N v d [] L de aS C/\Hf bL (C++[v])/\t∉C/\aD<=85*C.length+x/\(C++[v]).length<=N/\bL.count ao<kU/\V w fe #[r c 0,E T 0 0,E T 0 0] 202 (0,0)/\¬a7 fe
theorem Kg {ab:Nat} {a7:Nat->Prop} {L:List bw} {de aS:List Int} {X:Array ac} (h:pW bH am s t cB cy w q af p ab N aW bs aY bn bo a7 L de aS bL aD) (hb:V w fe X 202) (aC:¬a7 fe):¬re q aW bs aY bo a7 fe:=h.ij.acD hb aC bj bj bj bj bj
theorem vD.more {ab:Nat} {x:Nat} (h:vD bH am g s t aG pi cB cy q af p ab N aW bs aY bn fe kU x v d w) (hb:ae w D):vD bH am g s t aG pi cB cy q af p ab N aW bs aY bn fe kU x v d D:=by
 obtain⟨bo,a7,L,de,aS,bL,aD,C,h1,h2,ap,bl,cL,eI,gu,h9,iJ,oO,lF⟩:=h;exact⟨bo,a7,L,de,aS,bL,aD,C,h1.more hb,h2,ap,bl,cL,eI,gu,h9,iJ,oO.aq hb,lF⟩
theorem apS {ab:Nat} (ah:rf bH am af g N s t aG pi cB cy) (h:Hj bH am g s t aG pi cB cy q af p ab N aW bs aY bn fe kU w):
 ∃v k b,aE aa 166 #[J p 0] w λe D=>e=au (b8 #[r c v,r c k,aA b])/\((b=ad/\Kf bH am g s t aG pi cB cy q af p ab N aW bs aY bn fe kU v D)\/(b=ao/\apR bH am g s t aG pi cB cy q af p ab N aW bs aY bn fe D)):=by
 obtain⟨bo,a7,L,de,aS,bL,aD,C,h1,h2,ap,bl,cL,eI,gu,h9,iJ⟩:=h;by_cases hL:∃y,y∈L
 ·obtain⟨y,az⟩:=hL;have dK:xU 1 (ev pi) g.arcs (kj g aG pi) s N L de aS C:=by
   rcases h2 with h|⟨h,_⟩
   ·exact h
   ·exact absurd az (h y)
  obtain⟨v,k,p1,p2,e8⟩:=SN h1.ij.heap az;refine⟨v,k,ad,e8.mono ?_⟩;rintro e D ⟨rfl,aP⟩;obtain⟨c',q1,q2,bm⟩:=h1.ij.uR aP;obtain⟨d,r1,r2,eC,mv,kQ,rO,vE⟩:=dK.pop G ah.t7 p1 p2 q2;have n8:Kept (re q aW bs aY bo a7) w D:=bm.mono λk K=> .inl K;have wO:∀k,t_ a7 w D k->a7 k\/w.heap.size<=k:=λk K=>K.elim .inl λe=> .inr e.1;exact⟨rfl,.inl ⟨rfl,bo,_,c',de,aS,bL,aD,C,d,h1.next q1 n8 wO (λ_ h=> .inl h),r1,r2,mv,vE,ap,bl,cL,rO,gu,n8.aH h9 (Kg h1 h9 iJ),λhf=>(wO _ hf).elim iJ λe=>by have:=h9.lt;omega⟩⟩
 ·have aC:∀y,y∉L:=λy az=>hL ⟨y,az⟩;refine⟨0,0,ao,(aaK h1.ij.heap aC).mono ?_⟩;rintro e D ⟨rfl,fx⟩;subst D;refine⟨rfl,.inr ⟨rfl,bo,a7,L,de,aS,bL,aD,h1,?_,h9,iJ⟩⟩;rcases h2 with h|⟨_,h⟩
  ·exact h.none aC bl
  ·exact h
theorem Kf.nat {ab:Nat} (h:Kf bH am g s t aG pi cB cy q af p ab N aW bs aY bn fe kU v w):∃n:Nat,v=(n:Int):=by
 obtain⟨bo,a7,L,de,aS,bL,aD,C,d,h1,h2,ap,_⟩:=h;exact⟨v.toNat,G⟩
theorem acP:∀{bL:List Bool} {i:Nat},bL[i]? =A ao->(bL.set i ad).count ao<bL.count ao
 |b::l,0,h=>by
  have:b=ao:=by simpa using h
  subst this;simp
 |b::l,i+1,h=>by
  have:=acP (bL:=l) (i:=i) (by simpa using h);cases b<;>simp<;>omega
theorem Kf.close {ab:Nat} {v:Nat} (h:Kf bH am g s t aG pi cB cy q af p ab N aW bs aY bn fe kU (v:Int) w):
 v<N/\w.cell? (B q 4)=A (E (A (B aY 0)) N N)/\(∃z,w.cell? (B aY v)=A z)/\w.frozen? (B aY v)=ao/\∃d,vD bH am g s t aG pi cB cy q af p ab N aW bs aY bn fe kU 0 (v:Int) d (w.setCell (B aY v) (aA ad)):=by
 obtain⟨bo,a7,L,de,aS,bL,aD,C,d,h1,h2,ap,bl,cL,eI,gu,h9,iJ,oO,lF,sc⟩:=h;have oU:v<N:=G;have mh:v<bL.length:=by rw[h1.ij.vz];exact oU
 have K:Kept (re q aW bs aY bo a7) w (w.setCell (B aY v) (aA ad)):=(Kept.refl _ _).setCell (.inr (.inr (.inr (.inr (.inl rfl))))) _;have nU:=eI v mh;rw[decide_eq_false h2] at nU;refine⟨oU,h1.ij.aH.cell 4,⟨_,by rw[h1.ij.qz.cell];exact Ey _ _ mh⟩,h1.ij.qz.free v (.inr (cQ _)),d,bo,a7,L,de,aS,bL.set v ad,aD,C,h1.next (h1.ij.close v ad) K (λ_ h=> .inl h) (λ_ h=> .inl h),ap,bl,cL,λi ag=>?_,gu,G,iJ,by rw[<-oO];exact acP nU,K.aH lF (Kg h1 lF sc),sc⟩;rw[gN] at ag;by_cases e:i=v
 ·subst e;rw[tJ mh,decide_eq_true (fJ.2 (.inr (f2.2 rfl)))]
 ·rw[uM G,eI i ag]
  congr 1
  rw[decide_eq_decide,fJ,f2];constructor
  ·exact .inl
  ·rintro(h|h)
   ·exact h
   ·omega
theorem vD.cells {ab:Nat} {x:Nat} (j8:x<=1) {v:Nat} (h:vD bH am g s t aG pi cB cy q af p ab N aW bs aY bn fe kU x (v:Int) d w):∃aN eu dw,w.cell? (B q 7)=A (E aN eu dw)/\w.cell? (B q 2)=A (E (A (B aW 0)) N N)/\w.cell? (B aW v)=A (r c d)/\q<w.heap.size/\aW<w.heap.size/\
 ∀u ka c0 cI dB hX,(∀x∈[c0,cI,dB,hX],v7 x=ad)->ae w u->V u ka #[c0,cI,dB,hX] 310 (0,0)->∃a m R D,(qN #[46,46] 46 #[E aN eu dw,E (A (B ka 0)) 1 1]).run aa u= .ok (E a m R) D/\(∃z,D.cell? (B q 7)=A z)/\D.frozen? (B q 7)=ao/\vD bH am g s t aG pi cB cy q af p ab N aW bs aY bn fe kU (x+1) (v:Int) d (D.setCell (B q 7) (E a m R)):=by
 obtain⟨bo,a7,L,de,aS,bL,aD,C,h1,ap,bl,cL,eI,gu,h9,iJ,oO,lF,sc⟩:=h;obtain⟨b7,J'⟩:=h1.ij.kM;obtain⟨aN,eu,dw,rfl⟩:∃a n R,bo=E a n R:=by
  obtain⟨_,r2⟩:=J';rcases r2 with⟨e,_⟩|⟨g,R,cur,e,_⟩
  ·exact⟨_,_,_,e⟩
  ·exact⟨_,_,_,e⟩
 have aw:=cL.own;rw[ko] at aw;obtain⟨ag,he⟩:=r4.1 aw;refine⟨aN,eu,dw,h1.ij.aH.cell 7,h1.ij.aH.cell 2,by rw[h1.ij.pV.cell,kd _ _ _ ag,he],h1.ij.xF.1,h1.ij.xF.2.1,λu ka c0 cI dB hX ak hj cd=>?_⟩;have:=h1.ij.dR;rw[gW] at iJ;obtain⟨a,m,R,D,p1,p2,e8,_,i6,rE,ul⟩:=acB h1.ij (by simp at iJ;omega) c0 cI dB hX ak hj cd;have n8:Kept (re q aW bs aY (E aN eu dw) a7) w (D.setCell (B q 7) (E a m R)):=rE.mono λk K=>K.elim (λe=> .inr (.inl e)) λe=> .inr (.inr (.inr (.inr (.inr e))));exact⟨a,m,R,D,p1,p2,e8,_,_,_,_,_,_,_,C,h1.next i6 n8 (λ_ h=> .inl h) ul,ap,bl,cL,eI,gu,G,by rw[gW];exact iJ,oO,n8.aH lF (Kg h1 lF sc),sc⟩
theorem okB (bK:g.e2) (ok:Nat->Bool):Raw.e2 {g with arcs:=fa g.arcs ok}:=by
 refine⟨bK.nodes,bK.yF,bK.yG,bK.x,bK.y,?_,λa ha=>bK.aS a (y2 a ha)⟩;show(fa g.arcs ok).length<=67108864;unfold fa;have h1:=List.length_filterMap_le (λn=>if ok n=ad then g.arcs[n]? else T) (m8 g.arcs.length);rw[tK] at h1;exact cM h1 bK.arcs
theorem vD.scan {ab:Nat} (ah:rf bH am af g N s t aG pi cB cy) {v:Nat} (h:vD bH am g s t aG pi cB cy q af p ab N aW bs aY bn fe kU 1 (v:Int) d w) (apT:(v:Int)≠t):
 aE aa 214 #[J q 0,r c v] w λe D=>e=au (b8 #[])/\∃Ox,Ox<kU/\Hj bH am g s t aG pi cB cy q af p ab N aW bs aY bn fe Ox D:=by
 obtain⟨bo,a7,L,de,aS,bL,aD,C,h1,ap,bl,cL,eI,gu,h9,iJ,oO,lF,sc⟩:=h;have iH:=ah.dR.jo;have a9:0<=d/\d<72057594037927936:=by
  have aB:=ah.y5;exact f_.bound (g:={g with arcs:=fa g.arcs (kj g aG pi)}) (okB ah.dR.ok _) (by show 0<=s/\s<g.nodes;rw[<-ah.dR.nodes];exact aB) bl
 rw[gW] at iJ;refine(apL ah (v:=v) G eI a9 h1 cL (by simp at iJ;omega)).mono ?_;rintro e D ⟨rfl,gH,hi,c',pr,pX,iW,q1,q2,bm,cZ⟩;obtain⟨r1,r2⟩:=cZ.aH lF (Kg h1 lF sc);refine⟨rfl,_,oO,gH,hi,c',pr,pX,bL,iW,C++[(v:Int)],q1,.inl q2,eI,λhm=>?_,?_,?_,rfl,r1,λhf=>r2 (.inl hf)⟩
 ·rcases fJ.1 hm with hm|hm
  ·exact gu hm
  ·exact apT (f2.1 hm).symm
 ·rw[gW];simp;omega
 ·rw[gW];exact iJ
def jY (g:Raw) (aG:List Bool) (pi:List Int) (n:Nat):Bool:=ox aG n&&(iX (ev pi (gw g n).1)&&iX (ev pi (gw g n).2.1))
def uo (aU:Bool):Int:=if aU then-1 else 1
def wP (pi:List Int) (aU:Bool) (v:Int):Int:=uo aU*ev pi v
def ji (g:Raw) (aU:Bool):List bd:=if aU then g.arcs.map kF else g.arcs
def kk (s t:Int) (aU:Bool):Int:=if aU then t else s
def rP (aU:Bool):bd->Int:=if aU then mm else ns
def kV (aU:Bool):bd->Int:=if aU then ns else mm
theorem Oy (g:Raw) (aU:Bool):(ji g aU).length=g.arcs.length:=by cases aU<;>simp[ji]
theorem Oz (h:n<g.arcs.length) (h2:n<(ji g aU).length):(ji g aU)[n].1=rP aU g.arcs[n]/\(ji g aU)[n].2.1=kV aU g.arcs[n]/\(ji g aU)[n].2.2=g.arcs[n].2.2:=by
 cases aU
 ·exact⟨rfl,rfl,rfl⟩
 ·have e:(ji g ad)[n]=kF g.arcs[n]:=by simp[ji]
  rw[e];exact⟨rfl,rfl,rfl⟩
theorem acQ {a:bd} (h:a∈ji g aU):∃R∈g.arcs,a.1=rP aU R/\a.2.1=kV aU R/\a.2.2=R.2.2:=by
 obtain⟨n,aC,rfl⟩:=Bd h;have kA:n<g.arcs.length:=by rw[<-Oy g aU];exact aC
 exact⟨_,gB kA,Oz kA aC⟩
theorem acR (g:Raw) (ok:Nat->Bool) (aU:Bool):fa (ji g (!aU)) ok=(fa (ji g aU) ok).map kF:=by
 cases aU
 ·exact Oi _ _
 ·show fa g.arcs ok=(fa (g.arcs.map kF) ok).map kF;rw[Oi,flip_flip]
theorem OA (h:n<g.arcs.length) (aU:Bool):jY g aG pi n=(ox aG n&&(iX (ev pi (rP aU g.arcs[n]))&&iX (ev pi (kV aU g.arcs[n])))):=by
 unfold jY;rw[oY h];cases aU
 ·rfl
 ·show(_&&(iX (ev pi g.arcs[n].1)&&iX (ev pi g.arcs[n].2.1)))=(_&&(iX (ev pi g.arcs[n].2.1)&&iX (ev pi g.arcs[n].1)));rw[Bool.and_comm (iX (ev pi g.arcs[n].1))]
theorem T0:iX x=ad↔-72057594037927936<x/\x<72057594037927936:=by
 unfold iX;rw[tH,decide_eq_true_iff,decide_eq_true_iff]
theorem Hk (aU:Bool) (x:Int):uo aU*x=if aU then-x else x:=by cases aU<;>simp[uo]
def EG (pi:List Int) (bc:Int->Option Int):Prop:=∀v d,bc v=A d->(0<=d/\d<=144115188075855872)/\iX (ev pi v)=ad
theorem EG.set {bc:Int->Option Int} (h:EG pi bc) (a9:0<=d/\d<=144115188075855872) (az:iX (ev pi y)=ad):EG pi (gb bc y d):=λv e aK=>by
 by_cases q:v=y
 ·subst q;rw[nc] at aK;obtain rfl:=eT aK;exact⟨a9,az⟩
 ·rw[kG _ _ q] at aK;exact h v e aK
def Hl (dL:Int->Option Int) (v:Int):Int:=(dL v).getD 0
theorem apU (dL:Int->Option Int) (y n:Int):Hl (gb dL y n)=Al (Hl dL) y n:=by
 funext x;unfold Hl gb Al;by_cases q:x=y
 ·rw[if_pos q,if_pos q];rfl
 ·rw[if_neg q,if_neg q]
structure rQ (g:Raw) (aG:List Bool) (pi:List Int) (s t:Int) (N:Nat) (aU:Bool) (aI:f5):Prop where
 o:vA 2 (wP pi aU) (ji g aU) (jY g aG pi) (kk s t aU) N aI.L aI.bc (Hl aI.dL) aI.C
 hS:EG pi aI.bc
structure AE (g:Raw) (aG:List Bool) (pi:List Int) (s t:Int) (N:Nat) (aU:Bool) (v cU:Int) (S:List bd) (aI:f5):Prop where
 o:y4 2 (wP pi aU) (ji g aU) (jY g aG pi) (kk s t aU) N v cU S aI.L aI.bc (Hl aI.dL) aI.C
 hS:EG pi aI.bc
theorem acS {L:List bw} {bc:Int->Option Int} {C:List Int} (h:pk 2 (wP pi aU) L bc C) (ar:EG pi bc):∀x∈L,-1152921504606846976<=x.2/\x.2<=1152921504606846976:=λx ak=>by
 obtain⟨d,h1,_,ap⟩:=(h x).1 ak;obtain⟨q1,q2⟩:=ar _ _ h1;have q2:=T0.1 q2;unfold wP at ap;rw[Hk] at ap;split at ap<;>omega
def oy (g:Raw) (aG:List Bool) (pi:List Int) (s t:Int) (aU:Bool) (aI cE:f5) (found meet:Int):Prop:=sy (fa (ji g aU) (jY g aG pi)) (kk s t aU) (kk s t (!aU)) aI.bc cE.bc found meet
theorem oy.flip {aI cE:f5} (h:oy g aG pi s t aU aI cE found meet):oy g aG pi s t (!aU) cE aI found meet:=by
 unfold oy at h⊢;rw[acR,Bool.not_not];exact sy.flip h
def acT (acU:Int->Option Int) (v d found meet iy i_:Int):Prop:=
 (acU v=T/\iy=found/\i_=meet)\/∃e,acU v=A e/\((found<=d+e/\iy=found/\i_=meet)\/(d+e<found/\iy=d+e/\i_=v))
theorem oy.set {aI cE dn:f5} {iy i_:Int} (h:oy g aG pi s t aU aI cE found meet) (fx:rQ g aG pi s t N (!aU) cE) (h1:dP (fa (ji g aU) (jY g aG pi)) (kk s t aU) y d) (hV:dn.bc=gb aI.bc y d) (hF:acT cE.bc y d found meet iy i_):oy g aG pi s t aU dn cE iy i_:=by
 unfold oy at h⊢;have h2:∀e,cE.bc y=A e->dP ((fa (ji g aU) (jY g aG pi)).map kF) (kk s t (!aU)) y e:=λe he=>by
  have:=fx.o.Hc.walk y e he
  rwa[acR] at this
 obtain⟨k1,k2,k3⟩:=h.app h1 h2;rw[hV];rcases hF with⟨q1,rfl,rfl⟩|⟨e,q1,⟨q2,rfl,rfl⟩|⟨q2,rfl,rfl⟩⟩
 ·exact k2 q1
 ·exact k1 e q1 q2
 ·exact k3 e q1 q2
theorem oy.same {aI cE dn kh:f5} (h:oy g aG pi s t aU aI cE found meet) (e:dn.bc=aI.bc) (fm:kh.bc=cE.bc):oy g aG pi s t aU dn kh found meet:=by
 unfold oy at h⊢;rw[e,fm];exact h
theorem apV (bK:g.e2) {gT ez:f5} (aB:0<=s/\s<g.nodes) (h0:rQ g aG pi s t N ao gT) (h1:rQ g aG pi s t N ad ez) (hm:oy g aG pi s t ao gT ez found meet) (aP:∀a∈fa g.arcs (jY g aG pi),ev pi a.1<=2*a.2.2+ev pi a.2.1)
 (D3:(∀x,x∉gT.L)\/(∀x,x∉ez.L)\/∃a b,(∀x∈gT.L,a<=x.2)/\(∀x∈ez.L,b<=x.2)/\2*found<=a+b):c1 (fa g.arcs (jY g aG pi)) s t=found:=by
 have e0:wP pi ao=ev pi:=by funext v;unfold wP;rw[Hk];rfl
 have br:wP pi ad=λv=>-ev pi v:=by funext v;unfold wP;rw[Hk];rfl
 have k0:=h0.o;have k1:=h1.o;rw[e0] at k0;rw[br] at k1;exact sy.done bK aB (okB bK _) k0 k1 hm aP D3
theorem apW (aP:∀a∈fa g.arcs (jY g aG pi),ev pi a.1<=2*a.2.2+ev pi a.2.1) (aU:Bool):∀a∈fa (ji g aU) (jY g aG pi),wP pi aU a.1<=2*a.2.2+wP pi aU a.2.1:=by
 intro a ha;unfold wP;rw[Hk,Hk];cases aU
 ·exact aP a ha
 ·rw[show fa (ji g ad) (jY g aG pi)=(fa g.arcs (jY g aG pi)).map kF from Oi _ _] at ha;obtain⟨R,ah,rfl⟩:=jB.1 ha;have:=aP R ah;show-ev pi R.2.1<=2*R.2.2+-ev pi R.1;omega
theorem rQ.begin (g:Raw) (aG:List Bool) (pi:List Int) (s t:Int) (N:Nat) (aU:Bool) (aB:0<=kk s t aU/\kk s t aU<N) (aQ:iX (ev pi (kk s t aU))=ad) {aI:f5} (hL:∀x,x∈aI.L↔x=(kk s t aU,2*0+uo aU*ev pi (kk s t aU))) (aw:aI.bc=gb (λ_=>T) (kk s t aU) 0) (hb:aI.dL=gb (λ_=>T) (kk s t aU) (-1)) (bJ:aI.C=[]):rQ g aG pi s t N aU aI:=by
 obtain⟨a7,L,bc,dL,C⟩:=aI;simp only at hL aw hb bJ;subst aw hb bJ;refine⟨vA.begin 2 _ _ _ _ N aB (λx=>?_) ?_,EG.set (λv d h=>by cases h) G aQ⟩
 ·rw[hL];unfold wP;rw[show(2*0+uo aU*ev pi (kk s t aU):Int)=uo aU*ev pi (kk s t aU) by omega]
 ·show((gb (λ_=>T) (kk s t aU) (-1)) (kk s t aU)).getD 0=-1;rw[nc];rfl
theorem oy.begin (hst:s≠t) {gT ez:f5} (h0:gT.bc=gb (λ_=>T) s 0) (h1:ez.bc=gb (λ_=>T) t 0) (meet:Int):oy g aG pi s t ao gT ez 72057594037927936 meet:=by
 unfold oy;rw[h0,h1];exact sy.begin hst meet
theorem rQ.pop (bK:g.e2) (b1:(N:Int)=g.nodes) (aB:0<=kk s t aU/\kk s t aU<N) {aI:f5} (h:rQ g aG pi s t N aU aI) (aP:∀a∈fa g.arcs (jY g aG pi),ev pi a.1<=2*a.2.2+ev pi a.2.1) {k:Int} (hm:(v,k)∈aI.L) (tZ:∀x∈aI.L,k<=x.2) (vn:∀x,x∈c'↔x∈aI.L/\x.1≠v):
 ∃d,v∉aI.C/\(0<=v/\v<N)/\(0<=d/\d<72057594037927936)/\aI.bc v=A d/\(aI.C++[v]).length<=N/\AE g aG pi s t N aU v d [] ⟨hi,c',aI.bc,aI.dL,aI.C⟩:=by
 obtain⟨d,q1,q2,bm,cZ,ek,jg,s9⟩:=h.o.pop G (apW aP aU) hm tZ vn;refine⟨d,q1,q2,?_,ek,jg,s9,h.hS⟩;have apX:Raw.e2 {g with arcs:=fa (ji g aU) (jY g aG pi)}:=by
  cases aU
  ·exact okB bK _
  ·exact okB (g:=g.flip) (N_ bK) _
 exact f_.bound (g:={g with arcs:=fa (ji g aU) (jY g aG pi)}) apX (by show _/\_<g.nodes;rw[<-b1];exact aB) cZ
theorem AE.aS (bK:g.e2) (b1:(N:Int)=g.nodes) {aI:f5} (h:AE g aG pi s t N aU v cU S aI) (a9:0<=cU/\cU<72057594037927936) (aC:n<g.arcs.length) (aK:rP aU g.arcs[n]=v) (hf:ox aG n=ad):
 ((iX (ev pi (kV aU g.arcs[n]))=ao\/kV aU g.arcs[n]∈aI.C++[v]\/∃d,aI.bc (kV aU g.arcs[n])=A d/\d<=cU+g.arcs[n].2.2)/\∃jh,(∀a∈S,a∈jh)/\(∀h2:n<(ji g aU).length,jY g aG pi n=ad->(ji g aU)[n]∈jh)/\AE g aG pi s t N aU v cU jh aI)\/
 (iX (ev pi (kV aU g.arcs[n]))=ad/\kV aU g.arcs[n]∉aI.C++[v]/\(∀d,aI.bc (kV aU g.arcs[n])=A d->cU+g.arcs[n].2.2<d)/\(0<=cU+g.arcs[n].2.2/\cU+g.arcs[n].2.2<=144115188075855872)/\dP (fa (ji g aU) (jY g aG pi)) (kk s t aU) (kV aU g.arcs[n]) (cU+g.arcs[n].2.2)/\
  ∀dn:f5,dn.bc=gb aI.bc (kV aU g.arcs[n]) (cU+g.arcs[n].2.2)->dn.dL=gb aI.dL (kV aU g.arcs[n]) (n:Int)->dn.C=aI.C->(∀x,x∈dn.L↔x=(kV aU g.arcs[n],2*(cU+g.arcs[n].2.2)+uo aU*ev pi (kV aU g.arcs[n]))\/(x∈aI.L/\x.1≠kV aU g.arcs[n]))->
   ∃jh,(∀a∈S,a∈jh)/\(∀h2:n<(ji g aU).length,jY g aG pi n=ad->(ji g aU)[n]∈jh)/\AE g aG pi s t N aU v cU jh dn):=by
 have kA:n<(ji g aU).length:=by rw[Oy];exact aC
 obtain⟨br,a4,en⟩:=Oz aC kA;have nM:∀a∈S,a∈S++[(ji g aU)[n]]:=λa ha=>fJ.2 (.inl ha);have me:∀h2:n<(ji g aU).length,jY g aG pi n=ad->(ji g aU)[n]∈S++[(ji g aU)[n]]:=λ_ _=>fJ.2 (.inr (f2.2 rfl));have lN:=bK.aS _ (gB aC);have apY:iX (ev pi v)=ad:=(h.hS v cU h.o.scan.own).2;by_cases aQ:iX (ev pi (kV aU g.arcs[n]))=ad
 ·have K:jY g aG pi n=ad:=by rw[OA aC aU,hf,aQ,aK,apY];rfl
  have pY:0<=kV aU g.arcs[n]/\kV aU g.arcs[n]<N:=by
   rw[b1];cases aU
   ·exact lN.2.1
   ·exact lN.1
  have ha:(ji g aU)[n]∈fa (ji g aU) (jY g aG pi):=sx.2 ⟨n,kA,K,rfl⟩;have nP:∀a∈ji g aU,0<=a.2.2:=λa ha=>by
   obtain⟨R,ah,_,_,q⟩:=acQ ha;rw[q];exact(bK.aS R ah).2.2.1
  by_cases ah:kV aU g.arcs[n]∈aI.C++[v]
  ·refine .inl ⟨.inr (.inl ah),_,nM,me,h.o.a_ kA K (by rw[br,aK]) (.inl (by rw[a4];exact ah)),h.hS⟩
  ·by_cases ke:∃d,aI.bc (kV aU g.arcs[n])=A d/\d<=cU+g.arcs[n].2.2
   ·refine .inl ⟨.inr (.inr ke),_,nM,me,h.o.a_ kA K (by rw[br,aK]) (.inr (by rw[a4,en];exact ke)),h.hS⟩
   ·have a0:∀d,aI.bc (kV aU g.arcs[n])=A d->cU+g.arcs[n].2.2<d:=λd fy=>by
     by_cases q:d<=cU+g.arcs[n].2.2
     ·exact absurd ⟨d,fy,q⟩ ke
     ·omega
    have ar:0<=cU+g.arcs[n].2.2/\cU+g.arcs[n].2.2<=144115188075855872:=bI lN.2.2;refine .inr ⟨aQ,ah,a0,ar,?_,λdn q1 q2 bm cZ=>⟨_,nM,me,?_,?_⟩⟩
    ·have:=h.o.scan.least.1.snoc _ ha (by rw[br,aK]);rw[a4,en] at this;exact this
    ·rw[q1,q2,bm,apU];have k:=h.o.set nP kA K (by rw[br,aK]) (by rw[a4];exact pY) (by rw[a4];exact ah) (by rw[a4,en];exact a0) (c':=dn.L) (by rw[a4,en];exact cZ);rw[a4,en] at k;exact k
    ·rw[q1];exact h.hS.set ar aQ
 ·have ww:iX (ev pi (kV aU g.arcs[n]))=ao:=by cases ak:iX (ev pi (kV aU g.arcs[n])) with|true=>exact absurd ak aQ|false=>rfl
  refine .inl ⟨.inl ww,S,λ_ h=>h,λ_ K=>?_,h⟩;rw[OA aC aU,ww] at K;simp at K
theorem AE.end {aI dn:f5} (h:AE g aG pi s t N aU v cU S aI) (cb:∀n:Nat,∀aC:n<g.arcs.length,∀h2:n<(ji g aU).length,jY g aG pi n=ad->rP aU g.arcs[n]=v->(ji g aU)[n]∈S) (br:dn.L=aI.L) (a4:dn.bc=aI.bc) (en:dn.dL=aI.dL) (od:dn.C=aI.C++[v]):rQ g aG pi s t N aU dn:=by
 refine⟨?_,by rw[a4];exact h.hS⟩;rw[br,a4,en,od];exact h.o.end λn aC K he=>by
  have kA:n<g.arcs.length:=by rw[<-Oy g aU];exact aC
  exact cb n kA aC K (by rw[<-(Oz kA aC).1];exact he)
theorem acV (hst:s≠t) (h:iX (ev pi s)=ao\/iX (ev pi t)=ao):∀d,¬dP (fa g.arcs (jY g aG pi)) s t d:=by
 have z0:∀a∈fa g.arcs (jY g aG pi),iX (ev pi a.1)=ad/\iX (ev pi a.2.1)=ad:=λa ha=>by
  obtain⟨n,aC,K,rfl⟩:=sx.1 ha;rw[OA aC ao] at K;simp only[tH] at K;exact K.2
 intro d bU;rcases h with h|h
 ·have key:∀u e,dP (fa g.arcs (jY g aG pi)) s u e->u=s:=λu e bU=>by
   induction bU with
   |nil=>rfl
   |snoc a _ ha he d4=>
    rw[d4] at he;have:=(z0 a ha).1;rw[he,h] at this;cases this
  exact hst (key t d bU).symm
 ·cases bU with
  |nil=>exact hst rfl
  |snoc a _ ha he=>
   have:=(z0 a ha).2;rw[h] at this;cases this
section
attribute [local go_sem] f'
theorem ao0 {dH:Nat} (h:G_ u P af dH cc g) {R:Nat} {L:List Int} (hL:cR u (E a L.length R) L) (aw:L.length<=1000):aE aa 262 #[E a L.length R,.func (.func 263) #[] #[J dH 0,J cc 0]] u λe D=>(∃U:Int,e=au (r c U))/\D=u:=by
 have jm:∀args w,(gM 263 args).run aa w= .ok (.enter 263 args) w:=fg func263 bq rfl;have cS:=I (λv=>acl h v);have fG:=I hL;clear h hL;by_cases h0:L.length=0
 ·rw[h0];have e0:L=[]:=Qx.1 h0;clear h0 aw fG;go_in;go_wp2_with fail;go_ret;exact⟨⟨_,rfl⟩,rfl⟩
 ·obtain⟨kC,cx,rfl,d0⟩:=fG.o.at 0 G;rw[uH] at d0;obtain⟨z,b5⟩:=al (L[0]'G);rw[<-b5] at d0;have j5:((L.length:Int)==0)=ao:=by rw[beq_eq_false_iff_ne];omega
  have eP:(0:Int)<L.length:=G;clear b5 h0;go_in;go_wp2_with fail;refine(cS.o z).mono ?_;rintro e aJ ⟨⟨U,rfl⟩,a4⟩;subst a4;clear d0;go_wp2_with fail;go_loopw [5,6,20] (λx y i wr=>∃(k:Nat) (am ag:Int),k<=L.length/\i=r c k/\x=r c am/\y=r c ag/\wr=aJ) (λ_ _ i _=>L.length-(cu i).toNat)
  ·exact⟨0,U,U,G,rfl,rfl,rfl,rfl⟩
  ·obtain⟨k,am,ag,K,rfl,rfl,rfl,rfl⟩:=hrel;by_cases a0:k<L.length
   ·have ie:(k:Int)<L.length:=G;have k0:=ew k;obtain⟨ao1,acn,fm,d⟩:=fG.o.at k a0;obtain⟨rfl,rfl⟩:kC=ao1/\cx=acn:=by simpa using fm
    obtain⟨x,ak⟩:=al (L[k]);rw[<-ak] at d;clear ak fm;go_wp2_with fail;refine(cS.o x).mono ?_;rintro e ba ⟨⟨r1,rfl⟩,a4⟩;subst a4;obtain⟨fO,gi⟩:∃z,(if r1<am then r1 else am)=z:=⟨_,rfl⟩;go_wp2_with fail;refine(cS.o x).mono ?_;rintro e bi ⟨⟨r2,rfl⟩,a4⟩;subst a4;obtain⟨fD,gt⟩:∃z,(if ag<r2 then r2 else ag)=z:=⟨_,rfl⟩;go_wp2_with fail;go_roundw
    ·exact⟨k+1,fO,fD,G,by go_num,rfl,rfl,trivial⟩
    ·simp[cu];omega
   ·obtain rfl:k=L.length:=G;go_wp2_with fail;go_ret;exact⟨⟨_,rfl⟩,rfl⟩
structure JY (u:O) (P af:Nat) (g:Raw):Prop where
 kS:eq u af g
 par:∃v x,V u P #[J af 0,v,x] 180
theorem JY.later {ed:O} (h:JY u P af g) (hb:ae u ed):JY ed P af g:=by
 obtain⟨v,x,aP⟩:=h.par;exact⟨h.kS.a_ (bu.bg hb),v,x,aP.aq hb⟩
theorem ao2 (h:JY u P af g) {R:Nat} {L:List Int} (hL:cR u (E a L.length R) L) (aw:L.length<=1000):aE aa 190 #[J P 0,E a L.length R] u λe D=>(∃(d:Nat) (s:Int),d<4/\e=au (b8 #[r c d,r c s]))/\ae u D:=by
 have jd:=I (JX u);have H:=db h hL;clear h hL;go_in;go_wp2_with fail;refine dl jd.o λay hb=>?_;have bP:=I hb;clear hb jd;go_wp2_with fail;go_loopw [4,5,9] (λx y i wr=>∃(k d:Nat) (s:Int),k<=4/\d<4/\i=r c k/\x=r c d/\y=r c s/\aM (ae u wr)) (λ_ _ i _=>4-(cu i).toNat)
 ·exact⟨0,0,0,G,G,rfl,rfl,rfl,bP⟩
 ·obtain⟨k,d,s,K,a9,rfl,rfl,rfl,rb⟩:=hrel;by_cases a0:k<4
  ·have ie:(k:Int)<4:=G;have ov:=I (acm P k a0 wr);go_wp2_with fail;refine ov.o.mono ?_;rintro e aJ ⟨dH,cc,rfl,k0,k1,a5⟩;have dT:=I (rb.o.next' a5);have aP:=H.o.1.later dT.o;have G':=I (ao0 ⟨aP.kS,aP.par,k0,k1⟩ (H.o.2.a_ (bu.bg dT.o)) aw);clear k0 k1 a5 aP ov;go_wp2_with fail;refine G'.o.mono ?_;rintro e ba ⟨⟨U,rfl⟩,en⟩;subst en;clear G';by_cases aB:s<U
   ·go_wp2_with fail;go_roundw
    ·exact⟨k+1,k,U,G,a0,by go_num,rfl,rfl,dT⟩
    ·simp[cu];omega
   ·go_wp2_with fail;go_roundw
    ·exact⟨k+1,d,s,G,a9,by go_num,rfl,rfl,dT⟩
    ·simp[cu];omega
  ·obtain rfl:k=4:=G;go_wp2_with fail
   go_ret2
   exact⟨⟨d,s,a9,rfl⟩,rb.o⟩
theorem ao3 (n:Nat) (aC:n<=12) (w:O):aE aa 322 #[r .u64 n] w λe D=>(∃U:Int,e=au (r c U))/\D=w:=by
 have bU:IntKind.u8.wrap (n:Int)=n:=by show((n:Int)%256)=n;omega
 have h1:¬((4294967296:Int)<=n):=G;have h2:¬((65536:Int)<=n):=G;have ap:¬((256:Int)<=n):=G;have bl:=ew n;have cL:(n:Int)<256:=G;go_in;go_wp2;go_ret;exact⟨⟨_,rfl⟩,rfl⟩
theorem aco (n:Nat) (aC:n<=12) (w:O):aE aa 300 #[r .u64 n] w λe D=>(∃U:Int,e=au (r c U))/\D=w:=by
 have fG:=I (ao3 n aC w);have bU:IntKind.u64.wrap (n:Int)=n:=by show((n:Int)%18446744073709551616)=n;omega
 go_in;go_wp2_with fail;refine fG.o.mono ?_;rintro e aJ ⟨⟨U,rfl⟩,rfl⟩;go_wp2_with fail;go_ret;exact⟨⟨_,rfl⟩,rfl⟩
theorem ao4 (hB:Int->Prop) (ai g n R:Nat) (aC:n<=12) (Mo:Int) (fw:Nat) (jm:∀args w,(gM fw args).run aa w= .ok (.enter fw args) w) (eN:Array ac) (w:O) (h:ou hB w ai g n R) (ah:JV hB w g fw eN):
 aE aa 299 #[E (A (B g 0)) n R,r c 0,r c n,r c Mo,.func (.func fw) #[] eN] w λe D=>e=au (b8 #[])/\ou hB D ai g n R/\Kept (λk=>k=g) w D:=by
 have bZ:=I (acf hB ai g n R aC fw jm eN w h ah);have aa5:(n:Int)<=12:=G;clear h ah;go_in;go_wp2_with fail;go_loopw [1,2] (λx y wr=>x=r c 0/\y=r c n/\wr=w) (λ_ _ _=>0)
 ·exact⟨rfl,rfl,rfl⟩
 ·obtain⟨rfl,rfl,rfl⟩:=hrel;go_wp2_with fail;refine dl bZ.o λay ar=>?_;have cW:=I ar;clear ar bZ;go_wp2_with fail;refine gh (mQ rfl _ _ _) rfl ?_;exact⟨rfl,cW.o⟩
theorem ao5 (hB:Int->Prop) (ai g n R:Nat) (aC:n<=12) (fw:Nat) (jm:∀args w,(gM fw args).run aa w= .ok (.enter fw args) w) (eN:Array ac) (w:O) (h:ou hB w ai g n R) (ah:JV hB w g fw eN):
 aE aa 264 #[E (A (B g 0)) n R,.func (.func fw) #[] eN] w λe D=>e=au (b8 #[])/\ou hB D ai g n R/\Kept (λk=>k=g) w D:=by
 have bZ:=I (λMo=>ao4 hB ai g n R aC Mo fw jm eN w h ah);have fG:=I (aco n aC w);have bU:IntKind.u64.wrap (n:Int)=n:=by show((n:Int)%18446744073709551616)=n;omega
 clear h ah;go_in;go_wp2_with fail;refine fG.o.mono ?_;rintro e aJ ⟨⟨U,rfl⟩,a4⟩;subst a4;go_wp2_with fail;refine dl (bZ.o U) λay ar=>?_;have cW:=I ar;clear ar bZ;go_wp2_with fail;go_end0;exact⟨rfl,cW.o⟩
theorem Es.later {jk:ep->Array ac} {ce:List ep} (h:Es n gf lb jk eb b ce w) (hb:ae w D):Es n gf lb jk eb b ce D:=
 λl bG W hW q1 q2 bm cZ=>h l bG W (hb.trans (hW.mono hb.size)) q1 q2 bm cZ
structure J0 (b:Nat) (bH W:O) (z:Nat) (v:ac) (aj:List Int):Prop where
 box:yq W z 41 v
 row:W.ownsRow z 3 1 v aj.length (aj.flatMap ec)
 kept:Kept (λk=>k=b) bH W
theorem J0.dy {Q C:O} {v:ac} (h:J0 b bH Q z v aj) (b5:C.heap[z]? =Q.heap[z]?) (ar:∀k cs t fr,z<=k->V Q k cs t fr->C.heap[k]? =Q.heap[k]?) (K:Kept (λk=>k=b) bH C):J0 b bH C z v aj:=
 ⟨b5.trans h.box,fB h.row λk e=>by obtain⟨q1,_,aO⟩:=di h.row e;exact ar _ _ _ _ q1 aO,K⟩
theorem y0 {S:Nat->Prop} {Q:O} (h:Kept S w Q) (hb:bQ w.heap.size Q ai):Kept S w ai:=
 ⟨hb.os.trans h.os,hb.tape.trans h.tape,hb.output.trans h.output,cM h.size hb.size,λk K aC=>(hb.block k K).trans (h.block k K aC)⟩
theorem ao7 (m:Nat) (hm:2<=m) (gf:Nat) (lb:Array ac) (ce:List Int) (b1:ce.length<=1000000) (eb:O->O->Prop) (b:Nat) (w:O) (gQ:b<w.heap.size)
 (iQ:Es (m-1) gf lb iI eb b ce w) (jR:∀args w,(gM gf args).run aa w= .ok (.enter gf args) w)
 (lD:∀{Q ai C:O},eb Q ai->eb ai C->eb Q C) (ph:∀Q ai,bQ w.heap.size Q ai->w.heap.size<=Q.heap.size->eb Q ai):
 ge dY m aa 66 #[E T 0 0,.func (.func gf) #[] lb] w λe W'=>∃v,e=au v/\W'.ownsRow w.heap.size 3 1 v ce.length (ce.flatMap ec)/\Kept (λk=>k=b) w W':=by
 have h1:1<=m:=G;obtain⟨eP,ag,fL,gi,gt⟩:=m6 wn;have bZ:=jU ag fL gi gt;clear ag fL gi gt;refine sL func66 rfl trivial ?_ rfl;simp only[ntmps66,g0,fV,gp,gA,g1,gI,gJ,gK,gL,f1,fW];obtain⟨z,b5⟩:=al w.heap.size;obtain⟨fQ,jy⟩:=al (w.alloc (an #[E T 0 0] 41));have cT:=dx jy;have k2:=eK jy b5;have kR:fQ.heap.size=z+1:=by rw[jy];simp[b5]
 have nX:=I jy;have fR:=I b5;have vt:=I (iQ.later cT);have uj:J0 b w fQ z (E T 0 0) []:=⟨k2,oG _ _ _ _,Kept.bg cT⟩;have AA:=I uj;have cw:=I ph;have TE:=I (show b<z from by rw[b5];exact gQ);have hd:=I cT;clear jy k2 uj cT iQ gQ ph;gi_wp2_with fail;rw[<-nX.o,<-b5];clear b5;refine ao6 h1 (gf:=gf) (lb:=lb) rfl jR (b:=b) (bI TE.o) vt.o lD (λW l o dt aw aQ ah=>cw.o _ _ ⟨rfl,rfl,rfl,a3,λk K=>jr (bI fR.o)⟩ (g3 ((gU.1 aQ).1) fR.o)) (λ_=>rfl)
  (λpre W=>∃v,J0 b w W z v pre)
  (λs Q C ⟨v,h⟩ hb=>⟨v,h.dy (hb.block _ h.box.lt) (λk cs t fr _ aO=>hb.block k aO.lt) (h.kept.trans (Kept.bg hb))⟩)
  (λs Q x ⟨v,h⟩=>⟨v,h.dy (d7 _ _ _ _ (show z≠b by have:=TE.o;omega)) (λk cs t fr K _=>d7 _ _ _ _ (show k≠b by have:=TE.o;omega)) (h.kept.setCell rfl _)⟩)
  (λs Q l o dt ⟨v,h⟩ aw aQ ah=>⟨v,h.dy (jr G) (λk cs t fr _ aO=>jr (λe=>by
   rw[e] at aO;rw[show Q.heap[l]? =_ from aO] at aQ;obtain rfl:=eT aQ;cases ah)) (h.kept.put (bI fR.o))⟩)
  ⟨_,AA.o⟩ ?a1 ?assign ?body ?done
 case assign=>
  intro l x W aT dQ;dsimp only[iI];gi_wp2;exact dQ
 case body=>
  rintro l pre x W ⟨v,gF⟩ nJ;have ah:=gF.box.cell;have es:=gF.row;obtain⟨aN,eu,dw,rfl⟩:=es.ic;have hP:=gF.kept.size;have a0:pre.length<1000000:=by
   have:=nJ.length_le;simp at this;omega
  have xR:=I (show z<=W.heap.size from bI fR.o);gi_wp2_with(gi_at_builtin;refine FR (F:=_) _ rfl _ _ 41 rfl z 3 eP (r c 0) 1 8 nG bZ.o.1 bZ.o.2.1 bZ.o.2.2.1 bZ.o.2.2.2 rfl bj _ _ _ rfl (es.alloc _) (B W.heap.size 0) 1 1 [r c x] rfl rfl (FT _ _ _) (by simp[v7]) (by unfold ff;omega) G (by have:=xR.o;simp;omega) ?_;intro ca ay ow kH _ _;obtain⟨qi,nl,rfl⟩:=FU ow;obtain⟨h5,lw,iq,e6,a5⟩:=gF.box.appended bj es xR.o (bY _) ow kH;have pI:=h5.cell;have xS:=h5.frozen)
  refine⟨e6.from _,cw.o _ _ (by rw[<-fR.o];exact a5) (bI fR.o),⟨_,lw,?_,y0 gF.kept (by rw[<-fR.o];exact a5)⟩⟩;rw[gW,w8];simpa [ec] using iq
 case done=>
  rintro aF W fh ⟨v,gF⟩ ly;obtain⟨aN,eu,dw,rfl⟩:=gF.row.ic;have ah:=gF.box.cell;have c9:=I gF;clear gF;gi_wp2_with fail;rw[<-fR.o];refine vc (ai:=z) a3 _ _ ⟨⟨aF,rfl,G,ly,λdS h=>by cases h⟩,trivial⟩ λD eQ fi=>?_;exact⟨_,Md rfl _ _ _,_,rfl,fB c9.o.row (λk e=>by obtain⟨_,_,aO⟩:=di c9.o.row e;exact(eQ.aH aO).trans (show _=_ from aO).symm),y0 c9.o.kept (by rw[<-fR.o];exact fi)⟩
theorem acp (m:Nat) (hm:3<=m) (gf:Nat) (lb:Array ac) (ce:List Int) (b1:ce.length<=1000000) (eb:O->O->Prop) (b:Nat) (w:O) (gQ:b<w.heap.size)
 (iQ:Es (m-1-1) gf lb iI eb b ce w) (jR:∀args w,(gM gf args).run aa w= .ok (.enter gf args) w)
 (lD:∀{Q ai C:O},eb Q ai->eb ai C->eb Q C) (ph:∀Q ai,bQ w.heap.size Q ai->w.heap.size<=Q.heap.size->eb Q ai):
 ge dY m aa 23 #[.func (.func gf) #[] lb] w λe W'=>∃v,e=au v/\W'.ownsRow w.heap.size 3 1 v ce.length (ce.flatMap ec)/\Kept (λk=>k=b) w W':=by
 have cS:=I (ao7 (m-1) G gf lb ce b1 eb b w gQ iQ jR lD ph);clear iQ jR lD ph;refine kL func23 rfl trivial ?_ rfl;simp only[ntmps23,g0,fV,gp,gA,g1,gI,gJ,gK,gL,f1,fW];gi_wp2_with fail;refine⟨trivial,?_⟩;refine⟨λ_=>G,?_⟩;refine cS.o.mono ?_;rintro e aJ ⟨v,rfl,aQ,hb⟩;have H:=db aQ hb;clear aQ hb;gi_wp2_with fail;go_ret;exact⟨v,rfl,H.o.1,H.o.2⟩
structure TI (bH W:O) (ai:Nat) (v:ac) (aj:List Int):Prop where
 box:yq W ai 28 v
 row:W.ownsRow ai 2 1 v aj.length (aj.flatMap ec)
 below:bQ ai bH W
theorem ao9 {ai:Nat} (Ae:ai<=bH.heap.size) (dC:ai<=n):OwnFrom n (λ(aj:List Int) W=>∃v,TI bH W ai v aj):=λs Q C row aB hg ar=>by
 obtain⟨v,h⟩:=aB;have b9:∀k cs t fr,V Q k cs t fr->C.heap[k]? =Q.heap[k]? :=λk cs t fr hb=>hg.block k hb.lt (λe=>by
  obtain⟨_,o,aQ,ah⟩:=ar _ e.symm;rw[show Q.heap[k]? =_ from hb] at aQ;obtain rfl:=eT aQ;cases ah)
 exact⟨v,(b9 _ _ _ _ h.box).trans h.box,fB h.row (λk e=>by obtain⟨_,_,aO⟩:=di h.row e;exact b9 _ _ _ _ aO),h.below.grown hg (cM Ae h.below.size) (λk e=>cM dC (ar k e).1)⟩
theorem ao_ (m:Nat) (hm:2<=m) (gf:Nat) (lb:Array ac) (rI:List Int) (N:Nat) (b1:N<=1000000) (eb:O->O->Prop) (w:O)
 (iQ:SeqStopsK dY (m-1) aa gf lb iI eb (λce=>ce=rI) (λ_=>True) N w) (jR:∀args w,(gM gf args).run aa w= .ok (.enter gf args) w)
 (lD:∀{Q ai C:O},eb Q ai->eb ai C->eb Q C) (ph:∀Q ai,bQ w.heap.size Q ai->w.heap.size<=Q.heap.size->eb Q ai):
 ge dY m aa 283 #[E T 0 0,.func (.func gf) #[] lb] w λe W'=>∃v,e=au v/\W'.ownsRow w.heap.size 2 1 v rI.length (rI.flatMap ec)/\bQ w.heap.size w W':=by
 have h1:1<=m:=G;obtain⟨eP,ag,fL,gi,gt⟩:=m6 NM;have bZ:=jU ag fL gi gt;clear ag fL gi gt;refine sL func283 rfl trivial ?_ rfl;simp only[ntmps283,g0,fV,gp,gA,g1,gI,gJ,gK,gL,f1,fW];obtain⟨z,b5⟩:=al w.heap.size;obtain⟨fQ,jy⟩:=al (w.alloc (an #[E T 0 0] 28));have cT:=dx jy;have k2:=eK jy b5;have kR:fQ.heap.size=z+1:=by rw[jy];simp[b5]
 have nX:=I jy;have fR:=I b5;have uj:TI fQ fQ z (E T 0 0) []:=⟨k2,oG _ _ _ _,bx _ _⟩;have AA:=I uj;rw[<-b5] at ph cT;have hd:=I cT;clear jy k2 uj cT;gi_wp2_with fail;rw[<-nX.o,<-b5];clear b5;refine Ma (F:=dY) rfl h1 (gf:=gf) (lb:=lb) rfl trivial jR
  iQ lD (λW l o dt aw aQ ah wt=>ph _ _ (L' (w:=fQ) G W l o dt aw aQ ah wt) (bI ((gU.1 aQ).1))) (by rw[<-fR.o];exact hd.o) (λ_=>rfl)
  (λpre W=>∃v,TI fQ W z v pre)
  (λ_ _ _=>False)
  (ao9 G G)
  (λ_ _ _ _ _ aB _ _=>aB)
  ⟨_,AA.o⟩
  ?a1 ?assign ?body ?done ?stop
 case assign=>
  intro l x W aT dQ;dsimp only[iI];gi_wp2;exact dQ
 case body=>
  rintro l pre x W ⟨v,b1⟩ a0;have ah:=b1.box.cell;have es:=b1.row;obtain⟨aN,eu,dw,rfl⟩:=es.ic;have hP:=b1.below.size;gi_wp2_with(gi_at_builtin;refine FR (F:=_) _ rfl _ _ 28 rfl z 2 eP (r c 0) 1 8 v5 bZ.o.1 bZ.o.2.1 bZ.o.2.2.1 bZ.o.2.2.2 rfl bj _ _ _ rfl (es.alloc _) (B W.heap.size 0) 1 1 [r c x] rfl rfl (FT _ _ _) (by simp[v7]) (by unfold ff;omega) G (by simp;omega) ?_;intro ca ay ow kH _ _;obtain⟨qi,nl,rfl⟩:=FU ow;obtain⟨h5,lw,iq,e6,a5⟩:=b1.box.appended bj es G (bY _) ow kH;have pI:=h5.cell;have xS:=h5.frozen)
  refine⟨e6.from _,ph _ _ a5 G,⟨_,lw,?_,b1.below.trans a5⟩⟩;rw[gW,w8];simpa [ec] using iq
 case done=>
  rintro aF ce W fh rfl ⟨v,b1⟩ ly;obtain⟨aN,eu,dw,rfl⟩:=b1.row.ic;have ah:=b1.box.cell;have c9:=I b1;clear b1;gi_wp2_with fail;rw[<-fR.o];refine DC (ai:=z) a3 _ _ ⟨⟨aF,rfl,G,ly,λdS h=>by cases h⟩,trivial⟩ (hd.o.trans c9.o.below) λD eQ fi=>?_;exact⟨_,Md rfl _ _ _,_,rfl,fB c9.o.row (λk e=>by obtain⟨_,_,aO⟩:=di c9.o.row e;exact(eQ.aH aO).trans (show _=_ from aO).symm),fi⟩
 case stop=>
  rintro aF R pre W _ _ h _;exact h.elim
theorem ao' (m:Nat) (hm:3<=m) (gf:Nat) (lb:Array ac) (rI:List Int) (N:Nat) (b1:N<=1000000) (eb:O->O->Prop) (w:O)
 (iQ:SeqStopsK dY (m-1-1) aa gf lb iI eb (λce=>ce=rI) (λ_=>True) N w) (jR:∀args w,(gM gf args).run aa w= .ok (.enter gf args) w)
 (lD:∀{Q ai C:O},eb Q ai->eb ai C->eb Q C) (ph:∀Q ai,bQ w.heap.size Q ai->w.heap.size<=Q.heap.size->eb Q ai):
 ge dY m aa 239 #[.func (.func gf) #[] lb] w λe W'=>∃v,e=au v/\W'.ownsRow w.heap.size 2 1 v rI.length (rI.flatMap ec)/\bQ w.heap.size w W':=by
 have cS:=I (ao_ (m-1) G gf lb rI N b1 eb w iQ jR lD ph);clear iQ jR lD ph;refine kL func239 rfl trivial ?_ rfl;simp only[ntmps239,g0,fV,gp,gA,g1,gI,gJ,gK,gL,f1,fW];gi_wp2_with fail;refine⟨trivial,?_⟩;refine⟨λ_=>G,?_⟩;refine cS.o.mono ?_;rintro e aJ ⟨v,rfl,aQ,hb⟩;have H:=db aQ hb;clear aQ hb;gi_wp2_with fail;go_ret;exact⟨v,rfl,H.o.1,H.o.2⟩
def tk {ep:Type} (n gf:Nat) (lb:Array ac) (jk:ep->Array ac) (eb:O->O->Prop) (Y:List ep->O->Prop) (N:Nat) (w:O):Prop:=
 ∀(l:Nat) (bG:List ep->O->Prop) (W:O),bQ w.heap.size w W->(∀s Q C,bG s Q->bQ Q.heap.size Q C->bG s C)->
  (∀pre x d9,bG pre d9->pre.length<N->YieldAt dY (n-1) aa l (jk x) d9 λe W'=>e=au (aA ad)/\bG (pre++[x]) W'/\eb d9 W')->
  bG [] W->ge dY n aa gf (#[.func (.yield l) #[] #[]]++lb) W λe W'=>(∃v,e=au v)/\∃ce,Y ce W'/\bG ce W'
theorem J2 {g:Operand} {c7:Array Tmp} {assign body:Code} {bT:Exit->Act->O->Prop} {a:Act} (h1:1<=n) (hg:a.eval g= .func (.func gf) #[] lb)
 (jR:∀args w,(gM gf args).run aa w= .ok (.enter gf args) w) {jk:ep->Array ac} {Y:List ep->O->Prop} (iQ:tk (n-1) gf lb jk eb Y N w)
 (lD:∀{Q ai C:O},eb Q ai->eb ai C->eb Q C) (hKb:∀(W:O) (l:Nat) (o dt:Obj),w.heap.size<=l->W.heap[l]? =A o->o.isCells=ao->eb W (W.putObj l dt)) (lc:∀x,(jk x).size=c7.size)
 (ei:∀ce Q l (o dt:Obj),Y ce Q->w.heap.size<=l->Q.heap[l]? =A o->o.isCells=ao->Y ce (Q.putObj l dt))
 (dp:List ep->O->Prop) (j6:∀s Q C,dp s Q->bQ Q.heap.size Q C->dp s C) (qm:∀s Q l (o dt:Obj),dp s Q->w.heap.size<=l->Q.heap[l]? =A o->o.isCells=ao->dp s (Q.putObj l dt)) (h0:dp [] w) (tR:ep->Act)
 (hassign:∀(l:Nat) (x:ep) (W:O) (aT:Act->O->Prop),aT (tR x) W->
  assign.wpIn (Fence.wide.inRound l) (n-1-1) aa (Exit.then aT (λ_ _ _=>False)) {tmps:=(c7.zip (jk x)).foldl (λt (p,v)=>t.setIfInBounds p v) a.tmps,defers:=[]} W)
 (hbody:∀(l:Nat) (pre:List ep) (x:ep) (W:O),dp pre W->pre.length<N->body.wpIn (Fence.wide.inRound l) (n-1-1) aa (ownPostG w.heap.size eb dp (λ_ _ _=>False) (pre++[x]) W) (tR x) W)
 (hdone:∀(aF:Nat) (ce:List ep) (W:O),w.heap.size<=aF->Y ce W->dp ce W->W.heap[aF]? =A (.deferred (A []))->bT .normal {a with defers:={target:= .collected aF,args:=#[]}::a.defers} W):
 (Qe g c7 assign body).wpIn dY n aa bT a w:=by
 refine Qf λfn hfn=>?_;rw[show Fence.wide.round=T from rfl];obtain⟨hs,nz⟩:∃hs:LoopState->zz,hs=λst=>{state:=st,pending:=T,fn,tmps:=a.tmps,params:=c7,assign,body,defers:=w.heap.size}:=⟨_,rfl⟩;obtain⟨aI,hV⟩:=al ((w.alloc (.deferred (A []))).alloc (.loop (hs .ready)));have nA:bQ w.heap.size w aI:=by rw[hV];exact((bx _ w).alloc (bY _) _).alloc a3 _
 have rc:aI.heap[w.heap.size+1]? =A (.loop (hs .ready)):=by
  rw[hV];have:=vY (w.alloc (.deferred (A []))) (.loop (hs .ready));rwa[d8] at this
 have l0:aI.heap[w.heap.size]? =A (.deferred (A [])):=by
  rw[hV];exact(px _ _ _ a3).trans (vY w _)
 refine⟨w.heap.size+1,[{target:= .collected w.heap.size,args:=#[]}],aI,{target:= .fn (.func gf) lb,args:=#[.func (.yield (w.heap.size+1)) #[] #[]]},aI,gf,
  #[.func (.yield (w.heap.size+1)) #[] #[]]++lb,aI,?_,?_,?_,?_,λ_=>h1,?_⟩
 ·rw[hV,nz];exact Qh _ _ _ _ _
 ·simp only[resolve,hg];simp[go_sem]
 ·exactλ_ _=>trivial
 ·simp[invoke,go_sem,jR]
 refine(iQ (w.heap.size+1) (λs W=>dp s W/\W.heap[w.heap.size+1]? =A (.loop (hs .ready))/\W.heap[w.heap.size]? =A (.deferred (A []))) aI nA (λs Q C aB ah=>⟨j6 s Q C aB.1 ah,?_,?_⟩) ?_ ⟨j6 _ _ _ h0 nA,rc,l0⟩).mono ?_
 ·exact(ah.block _ (gU.1 aB.2.1).1).trans aB.2.1
 ·exact(ah.block _ (gU.1 aB.2.2).1).trans aB.2.2
 ·rintro pre x W ⟨ag,aw,K⟩ nJ;have a0:w.heap.size+1<W.heap.size:=(gU.1 aw).1;have az:=Qi (P:=aa) (args:=jk x) aw (by rw[nz];exact lc x);rw[nz] at az;refine⟨fn,_,assign,body,az,XQ hfn (hassign _ x W _ ⟨_,Qj aw (by rw[nz]),?_⟩)⟩;obtain⟨fK,nR⟩:∃fK,fK=W.putObj (w.heap.size+1) (.loop {hs .ready with state:= .busy}):=⟨_,rfl⟩;have o9:fK.heap[w.heap.size+1]? =A (.loop {hs .ready with state:= .busy}):=by rw[nR];exact A7 a0
  have e6:fK.heap[w.heap.size]? =A (.deferred (A [])):=by rw[nR];exact(jr G).trans K
  have JZ:dp pre fK:=by rw[nR];exact qm _ _ _ _ _ ag G aw rfl
  have pS:eb W fK:=by rw[nR];exact hKb _ _ _ _ G aw rfl
  rw[<-nR];refine Ia (hbody _ pre x fK JZ nJ) ?_;rintro e dX dI aP;cases e with
  |normal=>
   obtain⟨dv,zD,sP⟩:=aP;have kB:=dv.same _ _ G o9 rfl;have lh:=dv.same _ _ (bY _) e6 rfl;have ar:=Qk (P:=aa) T kB;have he:({({hs .ready with state:= .busy}:zz) with state:=if(T:Option Code).isNone then .ready else .done,pending:=T}:zz)=hs .ready:=by rw[nz];rfl
   rw[he] at ar;refine⟨_,_,ar,rfl,⟨qm _ _ _ _ _ sP G kB rfl,A7 (gU.1 kB).1,(jr G).trans lh⟩,lD (lD pS zD) (hKb _ _ _ _ G kB rfl)⟩
  |ret=>exact aP.2.elim
  |exit id=>exact aP.2.elim
  |goto t=>exact aP.2.elim
  |panic fp=>exact aP.elim
  |outgrown=>exact aP.elim
 ·rintro e fK ⟨⟨v,rfl⟩,ce,az,ag,aw,K⟩;have ar:=LR (P:=aa) aw (by rw[nz];simp);exact⟨T,_,by rw[ar,nz],hdone _ ce _ (bY _) (ei _ _ _ _ _ az G aw rfl) (qm _ _ _ _ _ ag G aw rfl) ((jr G).trans K)⟩
theorem tk.later {jk:ep->Array ac} {Y:List ep->O->Prop} (h:tk n gf lb jk eb Y N w) (hb:bQ w.heap.size w D):tk n gf lb jk eb Y N D:=
 λl bG W hW q1 q2 bm=>h l bG W (hb.trans (hW.mono hb.size)) q1 q2 bm
def xT (N bz:Nat):ac:=E (A (B bz 0)) N N
def J3 (N:Nat) (bz:Nat):Array ac:=#[xT N bz]
structure J4 (N:Nat) (bH W:O) (z:Nat) (v:ac) (aj:List Nat):Prop where
 box:yq W z 112 v
 row:W.ownsRow z 28 1 v aj.length (aj.map (xT N))
 below:bQ z bH W
theorem J4.dy {Q C:O} {v:ac} {aj:List Nat} (h:J4 N bH Q z v aj) (b5:C.heap[z]? =Q.heap[z]?) (ar:∀k cs t fr,z<=k->V Q k cs t fr->C.heap[k]? =Q.heap[k]?) (K:bQ z bH C):J4 N bH C z v aj:=
 ⟨b5.trans h.box,fB h.row λk e=>by obtain⟨q1,_,aO⟩:=di h.row e;exact ar _ _ _ _ q1 aO,K⟩
theorem apa:(prog.info? 28).map (λi=>(i.zero,i.size,i.bytes))=A (A (E T 0 0),1,24):=bq
def y1 (am:Nat) (W W':O):Prop:=bQ am W W'/\∀k cs fr,V W k cs 2 fr->V W' k cs 2 fr
theorem y1.trans {Q C:O} (h:y1 am Q ai) (k:y1 am ai C):y1 am Q C:=⟨h.1.trans k.1,λj cs fr av=>k.2 j cs fr (h.2 j cs fr av)⟩
theorem vx {Q:O} (h:bQ am Q ai) (aw:am<=l):bQ am Q (ai.putObj l dt):=⟨h.os,h.tape,h.output,by simpa using h.size,λk K=>(jr G).trans (h.block k K)⟩
theorem rJ {Q:O} {o:Obj} (aQ:Q.heap[l]? =A o) (ah:o.isCells=ao) {t:cY} (h:V Q k cs t fr):(Q.putObj l dt).heap[k]? =Q.heap[k]? :=jr λe=>by
 rw[e] at h;rw[show Q.heap[l]? =_ from h] at aQ;obtain rfl:=eT aQ;cases ah
theorem y1.put {Q:O} {o:Obj} (aw:am<=l) (aQ:Q.heap[l]? =A o) (ah:o.isCells=ao):y1 am Q (Q.putObj l dt):=⟨vx (bx _ _) aw,λ_ _ _ av=>(rJ aQ ah av).trans av⟩
theorem apb {ay:O} {base:Nat} {v ca:ac} {b7:List ac} {tmp:Obj} (Cl:yq W z 112 v) (es:W.ownsRow base 28 1 v n b7) (hg:(W.alloc tmp).grownBy ay v.ownBlock) (K:V W k cs 2 fr):V (ay.setCell (B z 0) ca) k cs 2 fr:=by
 have h1:k≠z:=λe=>by subst e;exact absurd (er K Cl) bj
 have h2:A k≠v.ownBlock:=λe=>by
  obtain⟨_,_,aO⟩:=di es e.symm;exact absurd (er K aO) bj
 exact((d7 _ _ _ _ h1).trans ((hg.block k (by have:=K.lt;simp;omega) h2).trans (px _ _ _ K.lt))).trans K
theorem apc (N:Nat) (aj:List Nat) (x:Nat):(aj++[x]).map (xT N)=aj.map (xT N)++[xT N x]:=by rw[qc];rfl
theorem apd (m:Nat) (hm:2<=m) (gf:Nat) (lb:Array ac) (N:Nat) (Y:List Nat->O->Prop) (many:Nat) (b1:many<=1000000) (w:O)
 (iQ:tk (m-1) gf lb (J3 N) (y1 w.heap.size) Y many w) (jR:∀args w,(gM gf args).run aa w= .ok (.enter gf args) w)
 (ei:∀ce Q C,Y ce Q->Q.heap.size<=C.heap.size->(∀k cs t fr,V Q k cs t fr->V C k cs t fr)->Y ce C) (AB:∀ce Q,Y ce Q->ce.length=many):
 ge dY m aa 90 #[E T 0 0,.func (.func gf) #[] lb] w λe W'=>∃v ce,e=au v/\Y ce W'/\W'.ownsRow w.heap.size 28 1 v ce.length (ce.map (xT N))/\bQ w.heap.size w W':=by
 have h1:1<=m:=G;obtain⟨eP,ag,fL,gi,gt⟩:=m6 apa;have bZ:=jU ag fL gi gt;clear ag fL gi gt;refine sL func90 rfl trivial ?_ rfl;simp only[ntmps90,g0,fV,gp,gA,g1,gI,gJ,gK,gL,f1,fW];obtain⟨z,b5⟩:=al w.heap.size;obtain⟨fQ,jy⟩:=al (w.alloc (an #[E T 0 0] 112));have cT:=dx jy;have k2:=eK jy b5;have nX:=I jy;have fR:=I b5;have vt:=I (iQ.later cT);have uj:J4 N w fQ z (E T 0 0) []:=⟨k2,oG _ _ _ _,by rw[b5];exact cT⟩;have AA:=I uj;have hd:=I cT;have ju:=I ei;have aDC:=I AB;clear jy k2 uj cT iQ ei AB;gi_wp2_with fail;rw[<-nX.o,<-b5];clear b5;refine J2 h1 (gf:=gf) (lb:=lb) rfl jR vt.o (λa b=>a.trans b) (λW l o dt aw aQ ah=>y1.put (bI hd.o.size) aQ ah) (λ_=>rfl)
  (λce Q l o dt az aw aQ ah=>ju.o _ _ _ az a3 λk cs t fr K=>(rJ aQ ah K).trans K)
  (λpre W=>∃v,J4 N w W z v pre)
  (λs Q C ⟨v,h⟩ hb=>⟨v,h.dy (hb.block _ h.box.lt) (λk cs t fr _ aO=>hb.block k aO.lt) (h.below.trans (hb.mono (g3 h.below.size fR.o)))⟩)
  (λs Q l o dt ⟨v,h⟩ aw aQ ah=>⟨v,h.dy (rJ aQ ah h.box) (λk cs t fr _ aO=>rJ aQ ah aO) (vx h.below (g3 hd.o.size fR.o))⟩)
  ⟨_,AA.o⟩ ?a1 ?assign ?body ?done
 case assign=>
  intro l x W aT dQ;dsimp only[J3,xT];gi_wp2;exact dQ
 case body=>
  rintro l pre x W ⟨v,gF⟩ a0;have ah:=gF.box.cell;have es:=gF.row;obtain⟨aN,eu,dw,rfl⟩:=es.ic;have hP:=gF.below.size;have xR:=I (show z<=W.heap.size from bI fR.o);gi_wp2_with(gi_at_builtin;refine FR (F:=_) _ rfl _ _ 112 rfl z 28 eP (E T 0 0) 1 24 underlying112 bZ.o.1 bZ.o.2.1 bZ.o.2.2.1 bZ.o.2.2.2 rfl bj _ _ _ rfl (es.alloc _) (B W.heap.size 0) 1 1 [E (A (B x 0)) N N] rfl rfl (FT _ _ _) (by simp[v7]) (by unfold ff;omega) G (by have:=xR.o;simp;omega) ?_;intro ca ay ow kH _ _;obtain⟨qi,nl,rfl⟩:=FU ow;obtain⟨h5,lw,iq,e6,a5⟩:=gF.box.appended bj es xR.o (bY _) ow kH;have HG:=I kH;have pI:=h5.cell;have xS:=h5.frozen)
  refine⟨e6.from _,⟨by rw[<-fR.o];exact a5,λk cs fr K=>?_⟩,⟨_,lw,?_,gF.below.trans a5⟩⟩
  ·exact apb gF.box es HG.o K
  ·rw[gW,apc,show xT N x=E (A (B x 0)) N N from rfl];simpa using iq
 case done=>
  rintro aF ce W fh az ⟨v,gF⟩ ly;obtain⟨aN,eu,dw,rfl⟩:=gF.row.ic;have ah:=gF.box.cell;have c9:=I gF;have TJ:=I az;clear gF az;gi_wp2_with fail;rw[<-fR.o];refine vc (ai:=z) a3 _ _ ⟨⟨aF,rfl,g3 hd.o.size fR.o,ly,λdS h=>by cases h⟩,trivial⟩ λD eQ fi=>?_;exact⟨_,Md rfl _ _ _,_,ce,rfl,ju.o _ _ _ TJ.o fi.size (λk cs t fr K=>eQ.aH K),fB c9.o.row (λk e=>by obtain⟨_,_,aO⟩:=di c9.o.row e;exact(eQ.aH aO).trans (show _=_ from aO).symm),c9.o.below.trans fi⟩
theorem ape (m:Nat) (hm:3<=m) (gf:Nat) (lb:Array ac) (N:Nat) (Y:List Nat->O->Prop) (many:Nat) (b1:many<=1000000) (w:O)
 (iQ:tk (m-1-1) gf lb (J3 N) (y1 w.heap.size) Y many w) (jR:∀args w,(gM gf args).run aa w= .ok (.enter gf args) w)
 (ei:∀ce Q C,Y ce Q->Q.heap.size<=C.heap.size->(∀k cs t fr,V Q k cs t fr->V C k cs t fr)->Y ce C) (AB:∀ce Q,Y ce Q->ce.length=many):
 ge dY m aa 47 #[.func (.func gf) #[] lb] w λe W'=>∃v ce,e=au v/\Y ce W'/\W'.ownsRow w.heap.size 28 1 v ce.length (ce.map (xT N))/\bQ w.heap.size w W':=by
 have cS:=I (apd (m-1) G gf lb N Y many b1 w iQ jR ei AB);clear iQ jR ei AB;refine kL func47 rfl trivial ?_ rfl;simp only[ntmps47,g0,fV,gp,gA,g1,gI,gJ,gK,gL,f1,fW];gi_wp2_with fail;refine⟨trivial,?_⟩;refine⟨λ_=>G,?_⟩;refine cS.o.mono ?_;rintro e aJ ⟨v,ce,rfl,az,aQ,hb⟩;have H:=ig az aQ hb;clear az aQ hb;gi_wp2_with fail;go_ret;exact⟨v,ce,rfl,H.o.1,H.o.2.1,H.o.2.2⟩
end
end Go.Proofs.YtnmliebconiefaaGreatDoor
