/- Texts of TopTriangle's and TopMoved's walks, made small by a printer; no conditions. -/
import Derived.Test.YtnmliebconiefaaGreatDoorQ06
import Derived.Lib.SliceRun
open And renaming intro→cv
open Bool renaming false→ao,true→ad
open Go renaming Addr→cp,Calls→aE,CallsIn→ge,Code→r3,TypeId→cY,Value→ac,World→O,YieldAt→o4,callFunc→gM,maxLen→ff,results→gq,undef→dr
open Go.Code renaming rangeFunc→Qe
open Go.Ending renaming returned→au,returned→aiQ
open Go.Fence renaming wide→dY
open Go.Instr renaming field→aCa
open Go.IntKind renaming i64→c,u32→j3
open Go.Obj renaming cells→an
open Go.Proofs.Tryz renaming func170→aCe,func186→aiR,func91→aCb,prog→aa
open Go.RowKit renaming Below→bQ,intOf→cu,wrap64→rl
open Go.Value renaming agg→aZ,bool→aA,int→r,pointer→a6,slice→E,tuple→b8,oneCell'→v7,slice→iB
open Go.World renaming cell?→FI
open List renaming finRange→pC,length→pA,replicate→d5
open Nat renaming le_mul_self→aCg,reduceAdd→gA,reduceSub→g1
open Option renaming none→T,some→A
open Or renaming inl→Xe,inr→hD
namespace Go.Proofs.YtnmliebconiefaaGreatDoor
open Go.RowKit Go.Shelf Go.Proofs.Tryz
set_option linter.all false
set_option maxRecDepth 100000
set_option maxHeartbeats 32000000
def aCf:=@Int.mul_le_mul_of_nonneg_right
def QQ:=@Int.mul_nonneg
def XW:=@Int.natCast_ediv
def aCd:=@List.filter_eq_self
def XX:=@List.mem_finRange
def aCc:=@List.take_set_of_le
def aCi:=@Nat.le_mul_of_pos_left
def XV:=@Nat.mul_le_mul_left
def QR:=@Go.Proofs.Tryz.results104
def XY:=@Go.Proofs.Tryz.underlying23
variable {cs:Array ac} {a m x:Int} {L X aj b0 l:List Int} {N R a' aW af b bB cc first fv k n z:Nat} {fr:Nat × Nat} {S:Nat → Prop} {C D Q W W' ai u w:O} {g:Raw} {FX:Type} {aN:ac} {t:cY}
theorem auk {ep:Type} {F:Fence} {P:Program} {g:Operand} {c7:Array Tmp} {assign body:r3} {bT:Exit->Act->O->Prop} {a:Act}
 (gO:F.round=T) (h1:1<=n) {gf:Nat} {lb:Array ac} (hg:a.eval g= .func (.func gf) #[] lb) (Q9:F.fn gf) (jR:∀args w,(gM gf args).run P w= .ok (.enter gf args) w)
 (jk:ep->Array ac) (lc:∀x,(jk x).size=c7.size) (ln eb:O->O->Prop) (S OK:List ep->Prop) N
 (hit:∀(l:Nat) (bG iu:List ep->O->Prop) (W:O),ae w W->(∀s Q ai,bG s Q->ln Q ai->bG s ai)->(∀s Q ai,iu s Q->ln Q ai->iu s ai)->
  (∀pre x d9,bG pre d9->pre.length<N->o4 F (n-1-1) P l (jk x) d9 λe W'=>(e=au (aA ad)/\bG (pre++[x]) W'/\eb d9 W')\/(e=au (aA ao)/\iu (pre++[x]) W'))->bG [] W->
  ge F (n-1) P gf (#[.func (.yield l) #[] #[]]++lb) W λe W'=>(∃v,e=au v)/\((∃b7,S b7/\bG b7 W')\/(∃pre,OK pre/\iu pre W')))
 (hSt:∀Q ai k o,ln Q ai->w.heap.size<=k->Q.heap[k]? =A o->o.isCells=ao->ai.heap[k]? =A o)
 (dp:List ep->O->Prop) (hIs:∀s Q ai,dp s Q->ln Q ai->dp s ai) (hIp:∀s Q l o dt,dp s Q->w.heap.size<=l->Q.heap[l]? =A o->o.isCells=ao->dp s (Q.putObj l dt)) (hIa:∀s Q o,dp s Q->dp s (Q.alloc o))
 (E5:r3->List ep->O->Prop) (adI:∀R s Q ai,E5 R s Q->ln Q ai->E5 R s ai) (O_:∀R s Q l o dt,E5 R s Q->w.heap.size<=l->Q.heap[l]? =A o->o.isCells=ao->E5 R s (Q.putObj l dt))
 (lD:∀{Q ai C:O},eb Q ai->eb ai C->eb Q C) (hKb:∀(W:O) (l:Nat) (o dt:Obj),w.heap.size<=l->W.heap[l]? =A o->o.isCells=ao->eb W (W.putObj l dt))
 (h0:dp [] w) (Q:List ep->ep->Act->O->Prop) (hAp:∀pre x a1 W l o dt,Q pre x a1 W->w.heap.size<=l->W.heap[l]? =A o->o.isCells=ao->Q pre x a1 (W.putObj l dt))
 (hassign:∀(l:Nat) (pre:List ep) (x:ep) (W:O) (aT:Act->O->Prop),dp pre W->pre.length<N->(∀a1 d9,Q pre x a1 d9->KeepsFrom w.heap.size W d9->eb W d9->aT a1 d9)->
  assign.wpIn (F.inRound l) (n-1-1) P (Exit.then aT (λ_ _ _=>False)) {tmps:=(c7.zip (jk x)).foldl (λt (p,v)=>t.setIfInBounds p v) a.tmps,defers:=[]} W)
 (hbody:∀(l:Nat) (pre:List ep) (x:ep) (a1:Act) (W:O),Q pre x a1 W->pre.length<N->body.wpIn (F.inRound l) (n-1-1) P (ownPostG w.heap.size eb dp E5 (pre++[x]) W) a1 W)
 (hdone:∀(aF:Nat) (b7:List ep) (W:O),w.heap.size<=aF->S b7->dp b7 W->W.heap[aF]? =A (.deferred (A []))->bT .normal {a with defers:={target:= .collected aF,args:=#[]}::a.defers} W)
 (D3:∀(aF:Nat) (R:r3) (pre:List ep) (W:O),w.heap.size<=aF->OK pre->E5 R pre W->W.heap[aF]? =A (.deferred (A []))->R.wpIn F n P bT {a with defers:={target:= .collected aF,args:=#[]}::a.defers} W):
 (Qe g c7 assign body).wpIn F n P bT a w:=by
 refine Qf ?_;intro fn hfn;rw[gO];obtain⟨rec,pG⟩:∃rec:LoopState->Option r3->Loop,rec=λst Q_=>{state:=st,pending:=Q_,fn,tmps:=a.tmps,params:=c7,assign,body,defers:=w.heap.size}:=⟨_,rfl⟩;obtain⟨d9,mb⟩:∃d9,(w.alloc (.deferred (A []))).alloc (.loop (rec .ready T))=d9:=⟨_,rfl⟩;have Q':d9.heap[w.heap.size+1]? =A (.loop (rec .ready T)):=by
  rw[<-mb];have:=vY (w.alloc (.deferred (A []))) (.loop (rec .ready T));rwa[d8] at this
 have Ra:d9.heap[w.heap.size]? =A (.deferred (A [])):=by
  rw[<-mb];exact(px _ _ _ a3).trans (vY w _)
 have aX:ae w d9:=by rw[<-mb];exact((bx _ w).alloc (bY _) _).alloc a3 _
 have j6:dp [] d9:=by rw[<-mb];exact hIa _ _ _ (hIa _ _ _ h0)
 refine⟨w.heap.size+1,[{target:= .collected w.heap.size,args:=#[]}],d9,{target:= .fn (.func gf) lb,args:=#[.func (.yield (w.heap.size+1)) #[] #[]]},d9,gf,
  #[.func (.yield (w.heap.size+1)) #[] #[]]++lb,d9,?_,?_,?_,?_,λ_=>h1,?_⟩
 ·rw[<-mb,pG];exact Qh _ _ _ _ _
 ·simp only[resolve,hg];simp[go_sem]
 ·intro Iy Iz;simp[Target.leads] at Iz;subst Iz;exact Q9
 ·simp[invoke,go_sem,jR]
 refine(hit (w.heap.size+1) (λpre W=>dp pre W/\W.heap[w.heap.size+1]? =A (.loop (rec .ready T))/\W.heap[w.heap.size]? =A (.deferred (A [])))
  (λpre W=>∃R,E5 R pre W/\W.heap[w.heap.size+1]? =A (.loop (rec .done (A R)))/\W.heap[w.heap.size]? =A (.deferred (A []))) d9 aX
  (λs Q ai aB hst=>⟨hIs s Q ai aB.1 hst,hSt Q ai _ _ hst G aB.2.1 rfl,hSt Q ai _ _ hst (bY _) aB.2.2 rfl⟩)
  (λs Q ai aB hst=>by obtain⟨R,ah,aw,K⟩:=aB;exact⟨R,adI R s Q ai ah hst,hSt Q ai _ _ hst G aw rfl,hSt Q ai _ _ hst (bY _) K rfl⟩) ?_ ⟨j6,Q',Ra⟩).mono ?_
 ·rintro pre x W ⟨ag,aw,K⟩ hlen;have a0:w.heap.size+1<W.heap.size:=(gU.1 aw).1;have az:=Qi (P:=P) (args:=jk x) aw (by rw[pG];exact lc x);rw[pG] at az;refine⟨fn,_,assign,body,az,XQ hfn (hassign _ pre x W _ ag hlen ?_)⟩;intro a1 IA hA uU Rb;have nk:=uU.same _ _ G aw rfl;have Rc:w.heap.size+1<IA.heap.size:=(gU.1 nk).1;refine⟨_,Qj nk (by rw[pG]),?_⟩;obtain⟨tS,qQ⟩:∃tS,IA.putObj (w.heap.size+1) (.loop {rec .ready T with state:= .busy})=tS:=⟨_,rfl⟩;have o9:tS.heap[w.heap.size+1]? =A (.loop {rec .ready T with state:= .busy}):=by rw[<-qQ];exact A7 Rc
  have e6:tS.heap[w.heap.size]? =A (.deferred (A [])):=by rw[<-qQ];exact(jr G).trans (uU.same _ _ (bY _) K rfl)
  have cK:eb W tS:=by rw[<-qQ];exact lD Rb (hKb _ _ _ _ G nk rfl)
  have uV:Q pre x a1 tS:=by rw[<-qQ];exact hAp _ _ _ _ _ _ _ hA G nk rfl
  rw[qQ];refine Ia (hbody _ pre x a1 _ uV hlen) ?_;have fin:∀(jump:Option r3) (dI:O),KeepsFrom w.heap.size tS dI->
   (Instr.endRound (w.heap.size+1) jump).run P dI= .ok (aA jump.isNone) (dI.putObj (w.heap.size+1) (.loop (rec (if jump.isNone then .ready else .done) jump)))/\
   dI.heap[w.heap.size+1]? =A (.loop {rec .ready T with state:= .busy})/\
   (dI.putObj (w.heap.size+1) (.loop (rec (if jump.isNone then .ready else .done) jump))).heap[w.heap.size+1]? =A (.loop (rec (if jump.isNone then .ready else .done) jump))/\
   (dI.putObj (w.heap.size+1) (.loop (rec (if jump.isNone then .ready else .done) jump))).heap[w.heap.size]? =A (.deferred (A [])):=λjump dI dv=>by
   have kB:=dv.same _ _ G o9 rfl;have:=Qk (P:=P) jump kB;rw[pG] at this⊢;exact⟨this,by rw[pG] at kB;exact kB,A7 (gU.1 kB).1,(jr G).trans (dv.same _ _ (bY _) e6 rfl)⟩
  rintro e dX dI aP;cases e with
  |normal=>
   obtain⟨dv,zD,sP⟩:=aP;obtain⟨ar,kB,uv,lh⟩:=fin T dI dv;exact⟨_,_,ar,.inl ⟨rfl,⟨hIp _ _ _ _ _ sP G kB rfl,uv,lh⟩,lD (lD cK zD) (hKb _ _ _ _ G kB rfl)⟩⟩
  |ret=>
   obtain⟨dv,sP⟩:=aP;obtain⟨ar,kB,uv,lh⟩:=fin (A .ret) dI dv;exact⟨_,_,ar,.inr ⟨rfl,.ret,O_ _ _ _ _ _ _ sP G kB rfl,uv,lh⟩⟩
  |exit id=>
   obtain⟨dv,sP⟩:=aP;obtain⟨ar,kB,uv,lh⟩:=fin (A (.exit id)) dI dv;exact⟨_,_,ar,.inr ⟨rfl,.exit id,O_ _ _ _ _ _ _ sP G kB rfl,uv,lh⟩⟩
  |goto t=>
   obtain⟨dv,sP⟩:=aP;obtain⟨ar,kB,uv,lh⟩:=fin (A (.goto t)) dI dv;exact⟨_,_,ar,.inr ⟨rfl,.goto t,O_ _ _ _ _ _ _ sP G kB rfl,uv,lh⟩⟩
  |panic fp=>exact aP.elim
  |outgrown=>exact aP.elim
 ·rintro e fK ⟨⟨v,rfl⟩,(⟨b7,cb,ag,aw,K⟩|⟨pre,hSp,R,ag,aw,K⟩)⟩
  ·exact⟨T,_,by have:=LR (P:=P) aw (by rw[pG];simp);rw[pG] at this;exact this,hdone _ b7 _ (bY _) cb (hIp _ _ _ _ _ ag G aw rfl) ((jr G).trans K)⟩
  ·exact⟨A R,_,by have:=LR (P:=P) aw (by rw[pG];simp);rw[pG] at this;exact this,D3 _ R pre _ (bY _) hSp (O_ R _ _ _ _ _ ag G aw rfl) ((jr G).trans K)⟩
def sG (least cr many x:Int):Int:=(x-least)*many/(cr-least+1)
theorem Pf {least cr many:Int} (h:least<=x/\x<=cr) (hm:1<=many):0<=sG least cr many x/\sG least cr many x<many:=by
 unfold sG;refine⟨Int.ediv_nonneg (QQ G G) G,Int.ediv_lt_of_lt_mul G ?_⟩;rw[Int.mul_comm many];exact Int.mul_lt_mul_of_pos_right G G
structure KR (R aj C:Nat):Prop where
 low:aj*aj<=R
 high:R<(aj+1)*(aj+1)
 aE4:C=R/aj
 pos:1<=aj
theorem KR.facts {aj C:Nat} (h:KR R aj C):aj*C<=R/\1<=aj*C/\aj<=C/\1<=C:=by
 obtain⟨h1,h2,rfl,bl⟩:=h;have cL:aj<=R/aj:=(aBY G).2 h1;refine⟨Nat.mul_div_le R aj,?_,cL,G⟩;have:1*1<=aj*(R/aj):=QP bl G;omega
theorem auO {U R aj C:Int} (ar:0<=U/\U<aj) (ah:0<=R/\R<C):0<=U*C+R/\U*C+R<aj*C:=by
 have h1:0<=U*C:=QQ ar.1 G;have h2:(U+1)*C<=aj*C:=aCf G G;rw[Int.add_mul,aiD] at h2;omega
def lP:List Int->Option (Int×Int)
 |[]=>T
 |x::L=>A (L.foldl (λe y=>(min e.1 y,max e.2 y)) (x,x))
theorem aem:∀(L:List Int) (e:Int×Int),e.1<=e.2->(L.foldl (λe y=>(min e.1 y,max e.2 y)) e).1<=e.1/\e.2<=(L.foldl (λe y=>(min e.1 y,max e.2 y)) e).2/\
 (∀y∈L,(L.foldl (λe y=>(min e.1 y,max e.2 y)) e).1<=y/\y<=(L.foldl (λe y=>(min e.1 y,max e.2 y)) e).2)/\
 ((L.foldl (λe y=>(min e.1 y,max e.2 y)) e).1=e.1\/(L.foldl (λe y=>(min e.1 y,max e.2 y)) e).1∈L)/\((L.foldl (λe y=>(min e.1 y,max e.2 y)) e).2=e.2\/(L.foldl (λe y=>(min e.1 y,max e.2 y)) e).2∈L)
 |[],e,h=>⟨rZ _,rZ _,λ_ h=>(by cases h),.inl rfl,.inl rfl⟩
 |y::L,e,h=>by
  obtain⟨a,b,R,d,f⟩:=aem L (min e.1 y,max e.2 y) (by dsimp only;omega);rw[FM];dsimp only at a b d f;refine⟨G,G,λz b5=>?_,?_,?_⟩
  ·rcases gg.1 b5 with rfl|b5
   ·omega
   ·exact R z b5
  ·rcases d with d|d
   ·rw[d];by_cases q:e.1<=y
    ·left;omega
    ·right;rw[show min e.1 y=y by omega];exact uL
   ·right;exact uK _ d
  ·rcases f with f|f
   ·rw[f];by_cases q:y<=e.2
    ·left;omega
    ·right;rw[show max e.2 y=y by omega];exact uL
   ·right;exact uK _ f
theorem aen {b:Int} (h:lP L=A (a,b)):a<=b/\(∀y∈L,a<=y/\y<=b)/\a∈L/\b∈L:=by
 cases L with
 |nil=>cases h
 |cons x L=>
  have fx:=eT h;obtain⟨p,q,U,s,t⟩:=aem L (x,x) (rZ _);rw[fx] at p q U s t;dsimp only at p q U s t;refine⟨G,λy az=>?_,?_,?_⟩
  ·rcases gg.1 az with rfl|az
   ·exact⟨p,q⟩
   ·exact U y az
  ·rcases s with s|s
   ·rw[s];exact uL
   ·exact uK _ s
  ·rcases t with t|t
   ·rw[t];exact uL
   ·exact uK _ t
theorem auP (R:Nat) (ah:1<=R/\R<=256) (w:O):aE aa 102 #[r c R] w λe D=>∃aj C:Nat,e=au (b8 #[r c aj,r c C])/\KR R aj C/\ae w D:=by
 have h1:¬(R:Int)<1:=G;have h2:¬(256:Int)<R:=G;have aE5:decide ((R:Int)<1)=ao:=decide_eq_false h1;have aE6:decide ((256:Int)<R)=ao:=decide_eq_false h2;go_in;go_wp2_with fail;go_loopw [2] (λi wr=>∃k:Nat,1<=k/\k*k<=R/\i=r c k/\aM (ae w wr)) (λi _=>256-(cu i).toNat)
 ·exact⟨1,G,G,rfl,I (bx _ _)⟩
 obtain⟨k,K,EI,rfl,bP⟩:=hrel;have aE7:k<=256:=cM (aCg k) G;have ay:IntKind.i64.wrap ((k:Int)+1)=((k+1:Nat):Int):=by rw[Dk];omega
 have aeo:(k+1)*(k+1)<=257*257:=QP G G;obtain⟨q,aO⟩:∃q:Nat,q=(k+1)*(k+1):=⟨_,rfl⟩;have hz:=I aO;have aE8:q<=66049:=by rw[aO];exact aeo
 have n8:k+1<=q:=by rw[aO];exact aCg _
 have hmul:((k:Int)+1)*((k:Int)+1)=(q:Int):=by rw[aO,H8];rfl
 have ba:rl (((k:Int)+1)*((k:Int)+1))=(q:Int):=by rw[hmul];unfold rl;omega
 have qZ:R/k<=256:=cM (Nat.div_le_self R k) ah.2;have bi:rl ((R:Int)/(k:Int))=((R/k:Nat):Int):=by
  rw[<-XW];generalize R/k=d at*;unfold rl;omega
 clear aO aeo hmul;by_cases a0:q<=R
 case pos=>
  have fi:(q:Int)<=R:=G;have hb:decide ((q:Int)<=R)=ad:=decide_eq_true G;go_wp2_with fail;go_roundw
  ·exact⟨k+1,G,by rw[<-hz.o];exact a0,by go_num,bP⟩
  ·simp[cu];omega
 case neg=>
  have fi:¬(q:Int)<=R:=G;have hb:decide ((q:Int)<=R)=ao:=decide_eq_false G;have b5:¬(k:Int)=0:=G;have HJ:((k:Int)==0)=ao:=by simpa using b5
  have Pg:(R:Int).tdiv (k:Int)=((R/k:Nat):Int):=rfl;go_wp2_with fail
  go_quiet (fail)
  go_wp2_with fail;exact gh (v:=b8 #[r c k,r c (R/k:Nat)]) (by simp[gq,results102,go_sem,bi]) rfl ⟨k,R/k,rfl,⟨EI,by rw[<-hz.o];omega,rfl,K⟩,below_drewN bP.o _⟩
def uz (w:O) (p q:Nat) (l:List Int):Prop:=∃v,V w p #[v] 121 (0,0)/\ip w v j3 l/\v.ownBlock=A q/\p≠q/\q<w.heap.size/\∀x∈l,0<=x/\x<4294967296
def vP (l:List Int) (n:Int):Int:=if n<1 then 0 else match l with|[]=>0|x::_=>x%n
def Vr (l:List Int) (n:Int):List Int:=if n<1 then l else l.tail
theorem aeN (p q:Nat) (l:List Int) (w:O) (h:uz w p q l):
 aE aa 177 #[J p 0] w λe D=>e=au (r c l.length)/\w=D:=by
 obtain⟨v,hb,⟨a,cap,rfl,h1,h2,ap⟩,_,_,_,_⟩:=h;have ah:=hb.cell 0;clear ap;change w.cell? (B p 0)=A (E a l.length cap) at ah;go_in;go_wp2;go_ret;exact⟨rfl,rfl⟩
theorem avv (x:Int) (U:List Int) (v:ac) (w:O) (h:ip w v j3 (x::U)):
 aE aa 178 #[v] w λe D=>∃ca,e=au (b8 #[r j3 x,ca])/\ip w ca j3 U/\ca.ownBlock=v.ownBlock/\D=w.drew:=by
 obtain⟨a,cap,rfl,h1,h2,ap⟩:=h;obtain⟨b,off,rfl,ah⟩:=ap 0 a3;simp only[fV,uH,List.getElem_cons_zero] at*;have hQ:=I ap;clear ap;go_in;go_wp2
 go_region
 have i9:aM (ip w.drew (E (if U=[] then A (B b off) else A (B b (off+1))) U.length U.length) j3 U):=by
  refine⟨_,_,rfl,bY _,G,λi ag=>?_⟩;have b9:U≠[]:=by intro e;subst e;simp at ag
  obtain⟨qR,My,e,RL⟩:=hQ.o (i+1) G;simp only[ah0,ah1,and_true] at e;obtain⟨rfl,rfl⟩:=e;refine⟨b,off+1,if_neg b9,?_⟩;rw[aiN,Nat.add_comm 1 i];simpa using RL
 have wF:aM ((iB (if U=[] then A (B b off) else A (B b (off+1))) U.length U.length).ownBlock=A b):=by
  show _=_;split<;>rfl
 generalize(if U=[] then A (B b off:cp) else A (B b (off+1)))=fM at*;go_wp2
 go_ret2
 exact⟨_,rfl,i9.o,wF.o,rfl⟩
theorem uz.kept {p q:Nat} (h:uz w p q l) (K:Kept S w D) (h1:¬S p) (h2:¬S q):uz D p q l:=by
 obtain⟨v,hb,aB,aO,CS,a0,ak⟩:=h;refine⟨v,K.aH hb h1,aB.dy (λb aK=>?_),aO,CS,jP a0 K.size,ak⟩;rw[aO] at aK;obtain rfl:q=b:=by simpa using aK
 exact K.block q a0 h2
theorem aeO (p q:Nat) (l:List Int) (n:Int) (aC:-9223372036854775808<=n/\n<=9223372036854775807) (w:O) (h:uz w p q l):
 aE aa 98 #[J p 0,r c n] w λe D=>e=au (r c (vP l n))/\uz D p q (Vr l n)/\Kept (·=p) w D:=by
 by_cases h1:n<1
 ·unfold vP Vr;rw[if_pos h1,if_pos h1];have bw:=I h;clear h;go_in;go_wp2_with fail;go_ret;exact⟨rfl,bw.o,Kept.refl _ _⟩
 ·unfold vP Vr;rw[if_neg h1,if_neg h1];have hle:1<=n:=G;cases l with
  |nil=>
   have C:=I (aeN p q [] w h);have bw:=I h;clear h;go_in;go_wp2_with fail;refine C.o.mono ?_;rintro e D ⟨rfl,rfl⟩;go_wp2_with fail;go_ret;exact⟨rfl,bw.o,Kept.refl _ _⟩
  |cons x U=>
   have C:=I (aeN p q (x::U) w h);obtain⟨v,hb,aB,aO,CS,a0,ak⟩:=h;have jL:=I (avv x U v w aB);have ah:=hb.cell 0;change w.cell? (B p 0)=A v at ah;have hfz:=hb.free 0 (.inr (cQ _));have Uh:=I hb;have aFb:=I aB;have EQ:=I ak;have aeP:=I aO;have aeQ:=I CS;have avw:=I a0;have j7:0<=x/\x<4294967296:=ak x a3;clear hb aB ak aO CS a0;have hlen:(((x::U).length:Int)==0)=ao:=by rw[beq_eq_false_iff_ne];simp;omega
   go_in;go_wp2_with fail;refine C.o.mono ?_;rintro e D ⟨rfl,rfl⟩;go_wp2_with fail;refine jL.o.mono ?_;rintro e D ⟨ca,rfl,⟨a,cap,rfl,g',iE,jx⟩,pM,rfl⟩;have yr:aM (ip w (E a U.length cap) j3 U):=⟨a,cap,rfl,g',iE,jx⟩;have aeR:=I pM;clear pM jx;go_wp2;go_ret;refine⟨?_,?_,?_⟩
   ·show aiQ _=_
    congr 2
    try exact Dl j7.1
   ·refine⟨E a U.length cap,(Uh.o.set 0 _).drew,yr.o.dy (λb hb=>?_),aeR.o.trans aeP.o,aeQ.o,?_,λy az=>EQ.o y (List.mem_of_mem_tail az)⟩
    ·rw[aeR.o,aeP.o] at hb;obtain rfl:q=b:=by simpa using hb
     exact d7 _ _ _ _ (h8 aeQ.o)
    ·show q<(w.setCell _ _).heap.size;simpa [World.setCell] using avw.o
   ·exact((Kept.refl (·=p) w).setCell (p:=B p 0) rfl _).drew
theorem aeS:(prog.info? 275).map (λi=>(i.zero,i.size,i.bytes))=A (A (r j3 0),1,4):=bq
theorem avx (v:ac) (l:List Int) (aw:l.length<=1000) (ak:∀x∈l,0<=x/\x<4294967296) (w:O) (aB:ip w v j3 l):
 aE aa 18 #[v] w λe D=>e=au (J (w.heap.size+1) 0)/\uz D (w.heap.size+1) w.heap.size l/\ae w D:=by
 have jT:=ys (P:=aa) 23 275 j3 4 XY aeS l.length G G;obtain⟨a,cap,rfl,h1,h2,ap⟩:=aB;have G0:=ajq (P:=aa) w 23 23 3 275 j3 XY bq a cap l ⟨a,cap,rfl,h1,h2,ap⟩;have hQ:=I ap;have EQ:=I ak;clear ap ak;go_in;have i9:aM (ip (w.alloc (an (c6 j3 l) 275)) (E (A (B w.heap.size 0)) l.length l.length) j3 l):=
  ⟨_,_,rfl,bY _,G,λi ag=>⟨_,_,rfl,by rw[jC,(V.new w _ _ _).cell,kd _ _ _ ag]⟩⟩
 go_wp2;go_ret;refine⟨rfl,⟨_,?_,i9.o.alloc _,rfl,G,by simp;omega,EQ.o⟩,(fb).alloc a3 _⟩;have:=V.new (w.alloc (an (c6 j3 l) 275)) #[E (A (B w.heap.size 0)) l.length l.length] 121 (0,0)
 rwa[show(w.alloc (an (c6 j3 l) 275)).heap.size=w.heap.size+1 by simp] at this
theorem avy (l:List Int) (n:Int) (ak:∀x∈l,0<=x/\x<4294967296) (aC:1<=n):0<=vP l n/\vP l n<n:=by
 unfold vP;rw[if_neg G];cases l with
 |nil=>simp;omega
 |cons x U=>exact⟨Ij _ G,FN _ G⟩
def ae1 {ep:Type} (n gf:Nat) (lb:Array ac) (jk:ep->Array ac) (ln eb:O->O->Prop) (Fi:List ep->ep->Prop) (Y:List ep->O->Prop) (w:O):Prop:=
 ∀(l:Nat) (bG:List ep->O->Prop) (W:O),ae w W->(∀s Q C,bG s Q->ln Q C->bG s C)->
  (∀pre x d9,bG pre d9->Fi pre x->o4 dY (n-1) aa l (jk x) d9 λe W'=>e=au (aA ad)/\bG (pre++[x]) W'/\eb d9 W')->
  bG [] W->ge dY n aa gf (#[.func (.yield l) #[] #[]]++lb) W λe W'=>(∃v,e=au v)/\∃ce,Y ce W'/\bG ce W'
theorem Vv {ep:Type} {g:Operand} {c7:Array Tmp} {assign body:r3} {bT:Exit->Act->O->Prop} {a:Act} (h1:1<=n) {gf:Nat} {lb:Array ac} (hg:a.eval g= .func (.func gf) #[] lb)
 (jR:∀args w,(gM gf args).run aa w= .ok (.enter gf args) w) {jk:ep->Array ac} {ln eb:O->O->Prop} {Fi:List ep->ep->Prop} {Y:List ep->O->Prop} (iQ:ae1 (n-1) gf lb jk ln eb Fi Y w)
 (hSt:∀Q ai k o,ln Q ai->(k=w.heap.size\/k=w.heap.size+1)->Q.heap[k]? =A o->o.isCells=ao->ai.heap[k]? =A o)
 (lD:∀{Q ai C:O},eb Q ai->eb ai C->eb Q C) (hKb:∀(W:O) (o dt:Obj),W.heap[w.heap.size+1]? =A o->o.isCells=ao->eb W (W.putObj (w.heap.size+1) dt)) (lc:∀x,(jk x).size=c7.size)
 (dp:List ep->O->Prop) (j6:∀s Q C,dp s Q->ln Q C->dp s C) (qm:∀s Q (o dt:Obj),dp s Q->Q.heap[w.heap.size+1]? =A o->o.isCells=ao->dp s (Q.putObj (w.heap.size+1) dt)) (h0:∀aI,ae w aI->dp [] aI)
 (ei:∀ce Q (o dt:Obj),Y ce Q->Q.heap[w.heap.size+1]? =A o->o.isCells=ao->Y ce (Q.putObj (w.heap.size+1) dt)) (tR:ep->Act)
 (hassign:∀(l:Nat) (x:ep) (W:O) (aT:Act->O->Prop),aT (tR x) W->
  assign.wpIn (Fence.wide.inRound l) (n-1-1) aa (Exit.then aT (λ_ _ _=>False)) {tmps:=(c7.zip (jk x)).foldl (λt (p,v)=>t.setIfInBounds p v) a.tmps,defers:=[]} W)
 (hbody:∀(l:Nat) (pre:List ep) (x:ep) (W:O),dp pre W->Fi pre x->w.heap.size+1<W.heap.size->body.wpIn (Fence.wide.inRound l) (n-1-1) aa (ownPostG w.heap.size eb dp (λ_ _ _=>False) (pre++[x]) W) (tR x) W)
 (hdone:∀(aF:Nat) (ce:List ep) (W:O),w.heap.size<=aF->Y ce W->dp ce W->W.heap[aF]? =A (.deferred (A []))->bT .normal {a with defers:={target:= .collected aF,args:=#[]}::a.defers} W):
 (Qe g c7 assign body).wpIn dY n aa bT a w:=by
 refine Qf λfn hfn=>?_;rw[show Fence.wide.round=T from rfl];obtain⟨hs,nz⟩:∃hs:LoopState->Loop,hs=λst=>{state:=st,pending:=T,fn,tmps:=a.tmps,params:=c7,assign,body,defers:=w.heap.size}:=⟨_,rfl⟩;obtain⟨aI,hV⟩:=al ((w.alloc (.deferred (A []))).alloc (.loop (hs .ready)));have nA:ae w aI:=by rw[hV];exact((bx _ w).alloc (bY _) _).alloc a3 _
 have rc:aI.heap[w.heap.size+1]? =A (.loop (hs .ready)):=by
  rw[hV];have:=vY (w.alloc (.deferred (A []))) (.loop (hs .ready));rwa[d8] at this
 have l0:aI.heap[w.heap.size]? =A (.deferred (A [])):=by
  rw[hV];exact(px _ _ _ a3).trans (vY w _)
 refine⟨w.heap.size+1,[{target:= .collected w.heap.size,args:=#[]}],aI,{target:= .fn (.func gf) lb,args:=#[.func (.yield (w.heap.size+1)) #[] #[]]},aI,gf,
  #[.func (.yield (w.heap.size+1)) #[] #[]]++lb,aI,?_,?_,?_,?_,λ_=>h1,?_⟩
 ·rw[hV,nz];exact Qh _ _ _ _ _
 ·simp only[resolve,hg];simp[go_sem]
 ·exactλ_ _=>trivial
 ·simp[invoke,go_sem,jR]
 refine(iQ (w.heap.size+1) (λs W=>dp s W/\W.heap[w.heap.size+1]? =A (.loop (hs .ready))/\W.heap[w.heap.size]? =A (.deferred (A []))) aI nA (λs Q C aB ah=>⟨j6 s Q C aB.1 ah,hSt Q C _ _ ah (.inr rfl) aB.2.1 rfl,hSt Q C _ _ ah (.inl rfl) aB.2.2 rfl⟩) ?_ ⟨h0 _ nA,rc,l0⟩).mono ?_
 ·rintro pre x W ⟨ag,aw,K⟩ nJ;have a0:w.heap.size+1<W.heap.size:=(gU.1 aw).1;have az:=Qi (P:=aa) (args:=jk x) aw (by rw[nz];exact lc x);rw[nz] at az;refine⟨fn,_,assign,body,az,XQ hfn (hassign _ x W _ ⟨_,Qj aw (by rw[nz]),?_⟩)⟩;obtain⟨fK,nR⟩:∃fK,fK=W.putObj (w.heap.size+1) (.loop {hs .ready with state:= .busy}):=⟨_,rfl⟩;have o9:fK.heap[w.heap.size+1]? =A (.loop {hs .ready with state:= .busy}):=by rw[nR];exact A7 a0
  have e6:fK.heap[w.heap.size]? =A (.deferred (A [])):=by rw[nR];exact(jr G).trans K
  have JZ:dp pre fK:=by rw[nR];exact qm _ _ _ _ ag aw rfl
  have pS:eb W fK:=by rw[nR];exact hKb _ _ _ aw rfl
  rw[<-nR];refine Ia (hbody _ pre x fK JZ nJ (gU.1 o9).1) ?_;rintro e dX dI aP;cases e with
  |normal=>
   obtain⟨dv,zD,sP⟩:=aP;have kB:=dv.same _ _ G o9 rfl;have lh:=dv.same _ _ (bY _) e6 rfl;have ar:=Qk (P:=aa) T kB;have he:({({hs .ready with state:= .busy}:Loop) with state:=if(T:Option r3).isNone then .ready else .done,pending:=T}:Loop)=hs .ready:=by rw[nz];rfl
   rw[he] at ar;refine⟨_,_,ar,rfl,⟨qm _ _ _ _ sP kB rfl,A7 (gU.1 kB).1,(jr G).trans lh⟩,lD (lD pS zD) (hKb _ _ _ kB rfl)⟩
  |ret=>exact aP.2.elim
  |exit id=>exact aP.2.elim
  |goto t=>exact aP.2.elim
  |panic fp=>exact aP.elim
  |outgrown=>exact aP.elim
 ·rintro e fK ⟨⟨v,rfl⟩,ce,az,ag,aw,K⟩;have ar:=LR (P:=aa) aw (by rw[nz];simp);exact⟨T,_,by rw[ar,nz],hdone _ ce _ (bY _) (ei _ _ _ _ az aw rfl) (qm _ _ _ _ ag aw rfl) ((jr G).trans K)⟩
section
attribute [local go_sem] f'
theorem ats (n R:Nat) (aC:n<=12) (ah:2<=R) (yA:R<=256):∃q:Nat,rl ((rl ((n:Int)*((R:Int)/2))).tdiv (R:Int))=(q:Int)/\q<=n:=by
 have hm:n*(R/2)<=12*128:=QP aC G;have aO:n*(R/2)/R<=n:=Nat.div_le_of_le_mul (by rw[aiM R];exact XV _ G);refine⟨n*(R/2)/R,?_,aO⟩;have br:(n:Int)*((R:Int)/2)=((n*(R/2):Nat):Int):=by rw[H8,XW];rfl
 obtain⟨m,att⟩:=al (n*(R/2));rw[<-att] at hm aO br⊢;have ay:rl (m:Int)=m:=aiL _ ⟨G,G⟩;have D2:(0:Int)<=((m/R:Nat):Int):=ew _;have aJ:rl ((m/R:Nat):Int)=((m/R:Nat):Int):=aiL _ ⟨G,G⟩;rw[br,ay,Mf G,<-XW,aJ]
def KJ (af aY N:Nat) (g:Raw) (P R:Nat):Prop:=∀(w:O) (a:Option cp) (cap:Nat) (L:List Int),ut w P af aY N->L.length<=12->(∀x∈L,0<=x/\x<N)->(∀u,Kept (λk=>k=P\/k=aY) w u->cR u (E a L.length cap) L/\eq u af g)->
 aE aa 106 #[J P 0,E a L.length cap,r c R] w λe D=>e=au (b8 #[])/\ut D P af aY N/\Kept (λk=>k=P\/k=aY) w D
theorem atu (af aY N:Nat) (g:Raw) (P:Nat):KJ af aY N g P 1:=λ_ _ _ _ h aw dj dQ=>atp h aw dj λu Z=>(dQ u Z).1
theorem atv (af aY N:Nat) (g:Raw) (P R:Nat) (ah:2<=R) (yA:R<=256) (h1:KJ af aY N g P (R/2)) (h2:KJ af aY N g P (R-R/2)):KJ af aY N g P R:=by
 intro w a cap L CM aw dj dQ;have g_:=@hJ aa;obtain⟨bk,el⟩:=al w.heap.size;obtain⟨ay,bA⟩:=al (w.alloc (an #[J P 0] 178));have aX:=dx bA;have k3:=eK bA el;have sw:∀u,ae w u->cR u (E a L.length cap) L/\eq u af g:=λu Z=>dQ u ⟨Z.os,Z.tape,Z.output,Z.size,λk K _=>Z.block k K⟩;have um:∀u,ae w u->JY u P af g:=λu Z=>by
  obtain⟨x,_,ak⟩:=CM.par;exact⟨(sw u Z).2,_,_,ak.aq Z⟩
 have atw:=I (ao2 (um ay aX) (sw ay aX).1 G);have cW:=db h1 h2;have atx:=I el;have cX:=I bA;have ch:ay.cell? (B bk 0)=A (J P 0):=k3.cell 0;have ix:((R:Int)==1)=ao:=by rw[beq_eq_false_iff_ne];omega
 rw[bA,el] at ch;clear bA;go_in;go_wp2_with fail;rw[<-cX.o,<-el];clear el;refine atw.o.mono ?_;rintro e aJ ⟨⟨d,s,a9,rfl⟩,a5⟩;have dT:=db (aX.next' a5) (k3.aq a5);have ch:aJ.cell? (B bk 0)=A (J P 0):=dT.o.2.cell 0;have U0:=I (acm P d a9 aJ);go_wp2_with fail;refine U0.o.mono ?_;rintro e ba ⟨dH,fE,rfl,k0,aty,ck⟩;have dh:=jU (dT.o.1.next' ck) (dT.o.2.aq ck) k0 aty;go_wp2_with fail;obtain⟨wS,E2⟩:=al ba.heap.size;obtain⟨bi,d6⟩:=al (ba.alloc (an #[.func (.func 263) #[] #[J dH 0,J fE 0]] 285));have c_:=dx d6;have xP:=eK d6 E2;rw[<-d6,<-E2];refine dl (T7 a L.length cap bi) λbD gm=>?_;obtain⟨hG,CN⟩:=al bi.heap.size;have cT:=dx gm;have CO:=eK gm CN;rw[<-CN];have O3:ae w bD:=(dh.o.1.next' c_).next' cT;have sD:ae ba bD:=c_.next' cT;have q0:=dh.o.2.2.1.aq sD;obtain⟨jp,ad2,atz,atA⟩:=dh.o.2.2.2;have atB:=ad2.aq sD;have atC:=xP.aq cT;have atD:=dh.o.2.1.aq sD;have aES:w.heap.size<=hG:=by rw[CN];exact(dh.o.1.next' c_).size
 have bB:dH<hG:=by rw[CN];exact jP dh.o.2.2.1.lt c_.size
 have aET:fE<hG:=by rw[CN];exact jP ad2.lt c_.size
 have aEU:wS<hG:=by rw[CN];exact xP.lt
 have ii:bk<hG:=by rw[CN];exact jP dh.o.2.1.lt c_.size
 have AG:∀u,Kept (λk=>k=hG) bD u->ae w u:=λu Z=>O3.trans (Z.below (bI O3.size) (λk K=>by have K:k=hG:=K;omega));have OL:=I (aqf (λx=>0<=x/\x<N) (sw bD O3).1 aw dj CO 193 (fg func193 bq rfl) #[J wS 0] (λu Z x y _ _=>art (p:=P) (af:=af) (g:=g) ⟨(sw u (AG u Z)).2,(um u (AG u Z)).par,Z.aH q0 (λe=>by have e:dH=hG:=e;omega),jp,Z.aH atB (λe=>by have e:fE=hG:=e;omega),atz,atA⟩ (Z.aH atC (λe=>by have e:wS=hG:=e;omega)) x y));have CL:=jU AG atD ii O3.size;clear d6 gm E2 CN;go_wp2_with fail;refine OL.o.mono ?_;rintro e cG ⟨a2,sE,M,rfl,KK,U7,U8,atE,Gp⟩;have AI:=db (CL.o.1 cG Gp) (Gp.aH CL.o.2.1 (λe=>by have e:bk=hG:=e;have:=CL.o.2.2.1;omega));have ad3:aM (∀b,(iB a2 L.length sE).ownBlock=A b->w.heap.size<=b):=λb e=>cM CL.o.2.2.2 (atE b e);go_wp2_with fail;obtain⟨q,aO,oe⟩:=ats L.length R aw ah yA;rw[aO];have hz:=ig oe (cR.adm (n:=L.length) (show cR cG (E a2 L.length sE) M from U8) q (by rw[KK];exact oe)) U7;have bC:aM (∀u,ae cG u->u.cell? (B bk 0)=A (J P 0)):=λu Z=>(AI.o.2.aq Z).cell 0;have atF:aM (∀u,ae cG u->aE aa 106 #[J P 0,E a2 q sE,r c ((R:Int)/2)] u λe D=>e=au (b8 #[])/\ut D P af aY N/\Kept (λk=>k=P\/k=aY) u D):=λu Z=>by
  have HE:(M.take q).length=q:=by rw[lS,KK];omega
  have wX:=AI.o.1.next' Z;have dC:∀ed,Kept (λk=>k=P\/k=aY) u ed->Kept (λk=>k=P\/k=aY) w ed:=λed K=>⟨K.os.trans wX.os,K.tape.trans wX.tape,K.output.trans wX.output,cM wX.size K.size,λk pa e6=>(K.block k (jP pa wX.size) e6).trans (wX.block k pa)⟩;have:=cW.o.1 u a2 sE (M.take q) (CM.later wX) G (λx ak=>U7 x (XT ak)) (λed K=>⟨by
   rw[HE];have ad4:P<w.heap.size:=by obtain⟨_,_,h⟩:=CM.par;exact h.lt
   have ad5:aY<w.heap.size:=by obtain⟨_,_,_,h⟩:=CM.row;exact h.lt
   obtain⟨fM,nl,e,g',iE,jx⟩:=hz.o.2.1.a_ (bu.bg Z);simp only[Ql] at e;obtain⟨rfl,br,rfl⟩:=e;refine⟨a2,sE,by rw[HE],g',iE,λi ag=>?_⟩;obtain⟨b,off,cs,t,fr,ha,cd,mh⟩:=jx i ag;have atG:=ad3.o b (by rw[ha];rfl);exact⟨b,off,cs,t,fr,ha,(K.block b cd.lt (λe=>by rcases e with e|e<;>omega)).trans cd,mh⟩,(dQ ed (dC ed K)).2⟩)
  rw[HE,XW] at this;exact this
 have atH:(q:Int)<=L.length:=G;have q0:=ew q;have yx:q<=sE:=by
  obtain⟨_,_,e,h1,_⟩:=U8;have h2:=KK;simp only[Ql] at e;obtain⟨_,br,a4⟩:=e;omega
 have mI:IntKind.i64.wrap ((R:Int)/2)=(R:Int)/2:=by
  exact o7 _ ⟨G,G⟩
 have IJ:¬sE<q:=G;refine jQ (λD=>D.cell? (B bk 0)=A (J P 0)) 6 rfl ?_;change ej _ _ _ _ _ _ _ 7 _ _ cG.drew;obtain⟨et,dm⟩:=al cG.drew;have aL:=I (show ae cG et by rw[dm];exact(bx _ _).drew);rw[<-dm];clear dm;have ax:=bC.o _ aL.o;repeat first|refine fS ?_|refine ea ?_
 refine dJ 6 ?_;refine e3 106 #[J P 0,E a2 q sE,r c ((R:Int)/2)] (atF.o _ aL.o) ?_;rintro e gY ⟨rfl,O4,DR⟩;refine⟨_,rfl,gj,?_⟩;simp only[bN,bM,bO];refine fc ?_;go_wp2_with fail;have ad6:bk≠P/\bk≠aY:=by
  have ad4:P<w.heap.size:=by obtain⟨_,_,h⟩:=CM.par;exact h.lt
  have ad5:aY<w.heap.size:=by obtain⟨_,_,_,h⟩:=CM.row;exact h.lt
  have ap:=atx.o;omega
 have atI:=DR.aH (AI.o.2.aq aL.o) (λe=>by rcases e with e|e;exact ad6.1 e;exact ad6.2 e);have atJ:aM (∀u,ae gY u->u.cell? (B bk 0)=A (J P 0)):=λu Z=>(atI.aq Z).cell 0;have Ho:IntKind.i64.wrap ((R:Int)-(R:Int)/2)=(R:Int)-(R:Int)/2:=o7 _ ⟨G,G⟩;have O5:=I (show Kept (λk=>k=P\/k=aY) cG gY from(y0 (Kept.refl _ _) aL.o).trans DR);have atK:aM (∀u,ae gY u->aE aa 106 #[J P 0,(E (if sE=q then a2 else a2.map λx=>x.add q) (L.length-q) (sE-q)),r c ((R:Int)-(R:Int)/2)] u λe D=>e=au (b8 #[])/\ut D P af aY N/\Kept (λk=>k=P\/k=aY) u D):=λu Z=>by
  have HE:(M.drop q).length=L.length-q:=by rw[Mi,KK]
  have ad4:P<w.heap.size:=by obtain⟨_,_,h⟩:=CM.par;exact h.lt
  have ad5:aY<w.heap.size:=by obtain⟨_,_,_,h⟩:=CM.row;exact h.lt
  have fq:Kept (λk=>k=P\/k=aY) w cG:=y0 (Kept.refl _ _) AI.o.1;have atL:Kept (λk=>k=P\/k=aY) cG u:=y0 O5.o (Z.mono O5.o.size);have dC:∀ed,Kept (λk=>k=P\/k=aY) u ed->Kept (λk=>k=P\/k=aY) cG ed:=λed K=>atL.trans K;have:=cW.o.2 u (if sE=q then a2 else a2.map λx=>x.add q) (sE-q) (M.drop q) (O4.later Z) G (λx ak=>U7 x (List.mem_of_mem_drop ak)) (λed K=>⟨by
   rw[HE];have ak:cR ed (E a2 L.length sE) M:=by
    obtain⟨fM,nl,e,g',iE,jx⟩:=U8;simp only[Ql] at e;obtain⟨rfl,br,rfl⟩:=e;refine⟨a2,sE,by rw[br],g',iE,λi ag=>?_⟩;obtain⟨b,off,cs,t,fr,ha,cd,mh⟩:=jx i ag;have atG:=ad3.o b (by rw[ha];rfl);exact⟨b,off,cs,t,fr,ha,((dC ed K).block b cd.lt (λe=>by rcases e with e|e<;>omega)).trans cd,mh⟩
   exact ak.tail q (by rw[KK];exact oe),(dQ ed (fq.trans (dC ed K))).2⟩)
  rw[HE,show((R-R/2:Nat):Int)=(R:Int)-(R:Int)/2 by omega] at this;exact this
 refine jQ (λD=>D.cell? (B bk 0)=A (J P 0)) 8 rfl ?_;change ej _ _ _ _ _ _ _ 9 _ _ gY.drew;obtain⟨et,dm⟩:=al gY.drew;have aL:=I (show ae gY et by rw[dm];exact(bx _ _).drew);rw[<-dm];clear dm;have ax:=atJ.o _ aL.o;repeat first|refine fS ?_|refine ea ?_
 have atM:∀u sC,ae gY u->(ut sC P af aY N/\Kept (λk=>k=P\/k=aY) u sC)->(aiQ (b8 #[])=aiQ (b8 #[])/\ut sC P af aY N/\Kept (λk=>k=P\/k=aY) w sC):=λu sC Z h=>⟨rfl,h.1,((y0 (y0 (Kept.refl _ _) AI.o.1|>.trans O5.o) (Z.mono (cM AI.o.1.size O5.o.size))).trans h.2)⟩;refine dJ 8 ?_;refine e3 106 #[J P 0,(E (if sE=q then a2 else a2.map λx=>x.add q) (L.length-q) (sE-q)),r c ((R:Int)-(R:Int)/2)] (atK.o _ aL.o) ?_;rintro e sC ⟨rfl,atN,qv⟩;have atO:=db atN qv;refine⟨_,rfl,gj,?_⟩;simp only[bN,bM,bO];refine fc ?_;go_wp2_with fail;all_goals(go_end0;exact⟨rfl,(atM _ _ aL.o atO.o).2⟩)
def zl (l:List Int) (x:Int):Option Int:=if x∈l then A 1 else T
theorem atP (ak:x∉l):gb (zl l) x 1=zl (l++[x]):=by
 funext y;unfold gb zl;by_cases e:y=x
 ·subst e;simp
 ·simp[e]
structure O6 (w:O) (a' bF ab:Nat) (N:Nat) (b0:List Int) (k:Nat) (u:O):Prop where
 below:ae w u
 cq:V u a' #[r c N] 3
 nh:V u bF #[.map (A ab)] 155
 map:∃n,n<=k/\jM 3 u ab n (zl (b0.take k))
 am:w.heap.size<=ab
theorem atQ {bF ab:Nat} (h:O6 w a' bF ab N b0 k u) (K:k<b0.length) (aw:b0.length<=12) (ar:0<=b0[k]/\b0[k]<N) (b1:N<=12) (hnd:b0.Nodup):
 aE aa 88 #[r c b0[k],J bF 0,J a' 0] u λe D=>e=au (aA ao)/\O6 w a' bF ab N b0 (k+1) D:=by
 obtain⟨n,aC,hm⟩:=h.map;obtain⟨x,ak⟩:=al (b0[k]);have ad7:x∉b0.take k:=by
  rw[ak];intro xx;have a9:=hnd;rw[<-List.take_append_drop k b0,A'] at a9;exact a9.2.2 _ xx _ (by rw[LS K];exact uL ..) rfl
 have sk:b0.take (k+1)=b0.take k++[x]:=by rw[ak];exact uI K
 rw[<-ak] at ar⊢;obtain⟨r0,r1⟩:=ar;have U9:-9223372036854775808<=x/\x<=9223372036854775807:=G;have mY:=hm.look BW U9;rw[show(zl (b0.take k) x).getD 0=0 by unfold zl;rw[if_neg ad7];rfl] at mY;obtain⟨aI,s1,g7,k2⟩:=hm.store BW (by unfold ff;omega) (v:=x) (d:=1) U9 G;have mr:=g7.look BW U9;rw[show(gb (zl (b0.take k)) x 1 x).getD 0=1 by rw[nc];rfl] at mr;rw[atP ad7,<-sk] at g7;have atS:=hm.ne h.nh;have HF:=hm.ne h.cq;have nh:=k2.aH h.nh atS;have cq:=k2.aH h.cq HF;have eU:=I (show O6 w a' bF ab N b0 (k+1) aI from⟨h.below.trans (k2.below h.below.size (λj av=>by rw[av];exact h.am)),cq,nh,⟨n+1,G,g7⟩,h.am⟩);have gl:=aR h.nh 0;have bb:=aR cq 0;have aEV:=aR nh 0;have br:decide (x<0)=ao:=decide_eq_false G;have a4:decide ((N:Int)<=x)=ao:=decide_eq_false G;clear ak;go_in;go_wp2_with fail;go_ret;exact⟨rfl,eU.o⟩
theorem atT (aN:ac) (L:List Int) (hL:L.length<=1000) (fw:Nat) (jm:∀args w,(gM fw args).run aa w= .ok (.enter fw args) w) (eN:Array ac) (ln:Nat->O->Prop) (w:O) (h0:ln 0 w) (aB:∀k u,ln k u->cR u aN L)
 (ah:∀k u,ln k u->∀h:k<L.length,aE aa fw (#[r c L[k]]++eN) u λe D=>e=au (aA ao)/\ln (k+1) D):
 aE aa 161 #[aN,.func (.func fw) #[] eN] w λe D=>e=au (r c (-1))/\ln L.length D:=by
 have cj:=I aB;have cS:=I ah;have hM:=I h0;obtain⟨a,ga,rfl,_⟩:=aB 0 w h0;go_in;go_wp2_with fail;go_loopw [8] (λi wr=>∃k:Nat,k<=L.length/\i=r c k/\aM (ln k wr)) (λi _=>L.length-(cu i).toNat)
 ·exact⟨0,G,rfl,hM⟩
 ·obtain⟨k,K,rfl,bZ⟩:=hrel;by_cases a0:k<L.length
  ·have ie:(k:Int)<L.length:=G;have k0:=ew k;obtain⟨kC,cx,rfl,d⟩:=(cj.o k wr bZ.o).at k a0;have Hq:=cS.o k wr bZ.o a0;generalize L[k]=x at d Hq;have atU:=I Hq;go_wp2_with fail;refine dl atU.o λaJ hb=>?_;have c9:=I hb;go_wp2_with fail;go_roundw
   ·exact⟨k+1,G,by go_num,c9⟩
   ·simp[cu];omega
  ·obtain rfl:k=L.length:=G;go_wp2_with fail;go_ret;exact⟨rfl,bZ.o⟩
theorem atV (aN:ac) (L:List Int) (hL:L.length<=1000) (fw:Nat) (jm:∀args w,(gM fw args).run aa w= .ok (.enter fw args) w) (eN:Array ac) (ln:Nat->O->Prop) (w:O) (h0:ln 0 w) (aB:∀k u,ln k u->cR u aN L)
 (ah:∀k u,ln k u->∀h:k<L.length,aE aa fw (#[r c L[k]]++eN) u λe D=>e=au (aA ao)/\ln (k+1) D):
 aE aa 89 #[aN,.func (.func fw) #[] eN] w λe D=>e=au (aA ao)/\ln L.length D:=by
 have bZ:=I (atT aN L hL fw jm eN ln w h0 aB ah);go_in;go_wp2_with fail;refine dl bZ.o λaJ h=>?_;have cj:=I h;go_wp2_with fail;go_ret;exact⟨rfl,cj.o⟩
theorem atW (ha:cR w aN b0) (aw:b0.length<=12) (ar:∀x∈b0,0<=x/\x<N) (b1:N<=12) (hnd:b0.Nodup):
 aE aa 45 #[r c N,aN] w λe D=>e=au (aA ad)/\ae w D:=by
 obtain⟨a,R,rfl,_⟩:=id ha;obtain⟨a',eB⟩:=al w.heap.size;obtain⟨ab,rH⟩:=al (a'+1);obtain⟨bF,eV⟩:=al (ab+1);obtain⟨ba,cg⟩:=al (((w.alloc (an #[r c N] 3)).alloc (.map #[] 0)).alloc (an #[.map (A ab)] 155));have ck:=tW cg;have k2:V ba a' #[r c N] 3:=by rw[cg,eB];exact((V.new _ _ _ _).alloc _).alloc _
 have k5:V ba bF #[.map (A ab)] 155:=by
  have k:=V.new ((w.alloc (an #[r c N] 3)).alloc (.map #[] 0)) #[.map (A ab)] 155 (0,0);rw[d8,d8] at k;rw[cg,eV,rH,eB];rw[rH,eB] at k;exact k
 have lu:=jM.made 3 (w.alloc (an #[r c N] 3));rw[d8,<-eB,<-rH] at lu;have E3:jM 3 ba ab 0 (zl (b0.take 0)):=by
  have e:zl (b0.take 0)=λ_=>T:=by funext x;simp[zl]
  rw[e,cg];exact lu.dy (px _ _ _ lu.lt)
 have cS:=I (atV (E a b0.length R) b0 G 88 (fg func88 bq rfl) #[J bF 0,J a' 0] (λk u=>O6 w a' bF ab N b0 k u) ba ⟨ck,k2,k5,⟨0,bY _,E3⟩,G⟩ (λk u h=>ha.a_ (bu.bg h.below)) (λk u h K=>atQ h K aw (ar _ (gB K)) b1 hnd));have g_:=@hJ aa;have lo:=@Bc aa;have h4:=I cg;have i16:(b0.length:Int)<=16:=G;clear cg;go_in;go_wp2_with fail;rw[<-eB,<-rH,<-eV,<-h4.o];refine dl cS.o λbi h=>?_;have bP:=I h.below;go_wp2_with fail;go_ret;exact⟨rfl,bP.o⟩
theorem atX (af:Nat) (a:Option cp) (n R:Nat) (lO:Nat) (w:O):aE aa 48 #[J af 0,E a n R,.func (.func lO) #[] #[]] w λe D=>e=au (.func (.func 91) #[] #[J (w.heap.size+1) 0,J (w.heap.size+2) 0,J w.heap.size 0])/\
 D=((w.alloc (an #[J af 0] 62)).alloc (an #[E a n R] 41)).alloc (an #[.func (.func lO) #[] #[]] 117):=by
 have g_:=@hJ aa;go_in;go_wp2_with fail;go_ret;exact⟨rfl,rfl⟩
theorem atY (m:Nat) (hm:1<=m) {bk:Nat} (vN:Int->List Int) (lO:Nat) (jm:∀args w,(gM lO args).run aa w= .ok (.enter lO args) w) (aw:b0.length<=12)
 (ha:∀u,ae w u->cR u aN b0) (h1:V w cc #[aN] 41) (h2:V w a' #[.func (.func lO) #[] #[]] 117) (ap:V w bk #[J af 0] 62)
 (hE:∀u,ae w u->∀k (h:k<b0.length),aE aa lO #[J af 0,r c b0[k]] u λe D=>∃bz bv cx dD c2,e=au (aZ #[E (A (B bz 0)) N N,E (A (B bv 0)) N N,E cx dD c2])/\V D bz (c6 c (vN b0[k])) 2 (0,0)/\ae u D):
 tk m 91 #[J cc 0,J a' 0,J bk 0] (J3 N) (y1 w.heap.size) (λce W=>ce.length=b0.length/\∀i (h:i<b0.length),∃b,ce[i]? =A b/\V W b (c6 c (vN b0[i])) 2) b0.length w:=λgd bG W hb ee ei h0=>by
 obtain⟨a,R,rfl,_⟩:=ha w (bx _ _);have yv:∀(x y z:ac) (w:O),(aCa 160 (aZ #[x,y,z]) 0).run aa w= .ok x w:=λ_ _ _ _=>by kernel_rfl
 have s5:aM (∀u,ae w u->u.cell? (B cc 0)=A (E a b0.length R)/\u.cell? (B a' 0)=A (.func (.func lO) #[] #[])/\u.cell? (B bk 0)=A (J af 0)):=λu Z=>⟨(h1.aq Z).cell 0,(h2.aq Z).cell 0,(ap.aq Z).cell 0⟩;have dM:=I ha;have cW:=I hE;obtain⟨P,dj⟩:∃P:Nat->O->Prop,P=λk u=>ae w u/\∃ce:List Nat,ce.length=k/\(∀i (h:i<b0.length),i<k->∃b,ce[i]? =A b/\V u b (c6 c (vN b0[i])) 2)/\bG ce u:=⟨_,rfl⟩;have e_:=I dj;have hM:=I (show P 0 W from by rw[dj];exact⟨hb,[],rfl,λi _ h=>absurd h (Dh _),h0⟩);obtain⟨aV,_,_⟩:=s5.o W hb;refine kL aCb rfl trivial ?_ rfl;simp only[ntmps91,g0,fV,gp,gA,g1,gI,gJ,gK,gL,f1,fW];gi_wp2_with fail;gi_loopw [9] (λi wr=>∃(k:Nat),k<=b0.length/\i=r c k/\aM (P k wr)) (λi _=>b0.length-(cu i).toNat)
 ·exact⟨0,cQ _,rfl,hM⟩
 ·obtain⟨k,K,rfl,Kz⟩:=hrel;by_cases a0:k<b0.length
  ·have ie:(k:Int)<b0.length:=G;have x6:=Kz.o;rw[e_.o] at x6;obtain⟨oI,ce,zX,ro,O7⟩:=x6;obtain⟨d1,d2,qd⟩:=s5.o wr oI;obtain⟨kC,cx,rfl,d⟩:=(dM.o wr oI).at k a0;have ps:=I (cW.o wr oI k a0);obtain⟨x,ak⟩:=al (b0[k]);rw[<-ak] at d ps;have e7:=jU oI zX ro O7;have EQ:=I ak;clear ak;gi_wp2_with fail;refine pD ps.o ?_;rintro e aJ ⟨bz,bv,acn,dD,c2,rfl,eh,a5⟩;obtain⟨oI,zX,ro,O7⟩:=e7.o;obtain⟨fn,tmps,assign,body,az,cf⟩:=ei ce bz aJ (ee _ _ _ O7 a5) G;dsimp only[J3,xT] at az;have fC:=db eh a5;gi_wp2_with fail;refine cf.mono ?_;rintro e dI ⟨rfl,ho,dv⟩;have hQ:=I (show P (k+1) dI from by
    rw[e_.o];obtain⟨oI,zX,ro,O7⟩:=e7.o;refine⟨(oI.trans (fC.o.2.mono oI.size)).trans dv.1,ce++[bz],by rw[gW,zX];rfl,λi ag aEW=>?_,ho⟩;by_cases e:i<k
    ·obtain⟨b,aX,a5⟩:=ro i ag e;exact⟨b,by rw[Ig G];exact aX,dv.2 _ _ _ (a5.aq fC.o.2)⟩
    ·obtain rfl:i=k:=G;refine⟨bz,by rw[FK G,zX,Dm];rfl,?_⟩;rw[<-EQ.o];exact dv.2 _ _ _ fC.o.1)
   gi_wp2_with fail;go_roundw
   ·exact⟨k+1,G,by go_num,hQ⟩
   ·simp[cu];omega
  ·obtain rfl:k=b0.length:=G;gi_wp2;go_end0;have x6:=Kz.o;rw[e_.o] at x6;obtain⟨_,ce,h1,h2,ap⟩:=x6;exact⟨⟨_,rfl⟩,ce,⟨h1,λi ag=>h2 i ag ag⟩,ap⟩
theorem atZ {m:List Int} (aC:m.length=n) (aw:n<=1000000) (h:V w b (c6 c m) t):cR w (E (A (B b 0)) n n) m:=
 ⟨A (B b 0),n,by rw[aC],G,by unfold ff;omega,λi ag=>⟨b,0,_,t,_,rfl,h,by rw[jC];exact kd _ _ i ag⟩⟩
theorem at0 {base:Nat} {v:ac} {ce:List Nat} {vN:Int->List Int} (ar:W.ownsRow base 28 1 v ce.length (ce.map (xT N))) (b1:N<=12) (U_:∀x,(vN x).length=N) (aw:ce.length=b0.length) (az:∀i (h:i<b0.length),∃b,ce[i]? =A b/\V W b (c6 c (vN b0[i])) 2):ru W v (b0.map vN):=by
 rcases id ar.2 with⟨aK,h0⟩|⟨g,cap,cur,aK,h1,h2,ap,bl,_⟩
 ·exact⟨T,0,by rw[aK,iT,<-aw,h0],by rw[iT];omega,cQ _,λi ag=>by rw[iT] at ag;omega⟩
 ·subst aK;refine⟨_,cap,by rw[iT,aw],by rw[iT];omega,bl,λi ag=>?_⟩;rw[iT] at ag;obtain⟨b,aX,a5⟩:=az i ag;have cL:=ar.cellAt i G;rw[w',aX,(show V W g cur _ _ from h2).cell] at cL;refine⟨g,0,cur,_,_,_,rfl,h2,by rw[jC];exact cL,?_⟩;rw[XF];exact atZ (U_ _) G a5
theorem at1 {b4 aS C:List Int} (h:vo g.arcs m N b4 aS C):b4=Ay g N m:=by
 apply QB;intro i;by_cases ag:i<N
 ·rw[h.b4 i ag,ab_ ag]
 ·rw[yo (by rw[h.tg];omega),yo (by unfold Ay;rw[iT,tK];omega)]
theorem at2 {b4 aS C:List Int} (h:vo (g.arcs.map kF) m N b4 aS C):b4=Ax g N m:=by
 apply QB;intro i;by_cases ag:i<N
 ·rw[h.b4 i ag,ab9 ag,BV]
 ·rw[yo (by rw[h.tg];omega),yo (by unfold Ax;rw[iT,tK];omega)]
theorem O8 {v:ac} {Q:List bd} {s:Int} (h:Ec u.heap.size D v Q s N):∃bz bv cx dD c2 b4 aS C,v=aZ #[E (A (B bz 0)) N N,E (A (B bv 0)) N N,E cx dD c2]/\vo Q s N b4 aS C/\V D bz (c6 c b4) 2 (0,0)/\V D bv (c6 c aS) 3 (0,0)/\D.ownsRow u.heap.size 3 1 (E cx dD c2) C.length (C.flatMap ec):=by
 obtain⟨bz,bv,d_,b4,aS,C,rfl,h1,h2,ap,bl,_⟩:=h;obtain⟨cx,dD,c2,rfl⟩:∃a n R,d_=E a n R:=by
  rcases bl.2 with⟨e,_⟩|⟨_,_,_,e,_⟩
  ·exact⟨_,_,_,e⟩
  ·exact⟨_,_,_,e⟩
 exact⟨bz,bv,cx,dD,c2,b4,aS,C,rfl,h1,h2,ap,bl⟩
theorem at3 (hf:jz g N) (dE:eq w af g) (ha:cR w aN b0) (aw:b0.length<=12) (ar:∀x∈b0,0<=x/\x<N) (hnd:b0.Nodup):
 aE aa 16 #[J af 0,aN] w λe D=>∃bE,e=au (J bE 0)/\jq D bE g N b0/\w.heap.size<=bE/\ae w D:=by
 obtain⟨a,R,rfl,_⟩:=id ha;have gn:aM (∀u,ae w u->aE aa 27 #[J af 0] u λe D=>e=au (r c N)/\D=u):=λu Z=>by rw[hf.nodes];exact l3 af g u (dE.a_ (bu.bg Z))
 have at4:=I (atW ha aw ar hf.jo hnd);have kl:=I (λu (Z:ae w u)=>D' _ b0 u (ha.a_ (bu.bg Z)) G);have vL:=I (λ(lO:Nat) u=>atX af a b0.length R lO u);have uj:∀(lO:Nat) (vN:Int->List Int),(∀args w,(gM lO args).run aa w= .ok (.enter lO args) w)->(∀x,(vN x).length=N)->(∀u,ae w u->∀k (h:k<b0.length),aE aa lO #[J af 0,r c b0[k]] u λe D=>∃bz bv cx dD c2,e=au (aZ #[E (A (B bz 0)) N N,E (A (B bv 0)) N N,E cx dD c2])/\V D bz (c6 c (vN b0[k])) 2 (0,0)/\ae u D)->
  ∀u,ae w u->aE aa 47 #[.func (.func 91) #[] #[J (u.heap.size+1) 0,J (u.heap.size+2) 0,J u.heap.size 0]] (((u.alloc (an #[J af 0] 62)).alloc (an #[E a b0.length R] 41)).alloc (an #[.func (.func lO) #[] #[]] 117)) λe D=>∃ot EO hs,e=au (E ot EO hs)/\ru D (E ot EO hs) (b0.map vN)/\ae u D:=λlO vN jm U_ hE u Z=>by
  obtain⟨aI,hV⟩:=al (((u.alloc (an #[J af 0] 62)).alloc (an #[E a b0.length R] 41)).alloc (an #[.func (.func lO) #[] #[]] 117));have nA:=tW hV;have k3:V aI u.heap.size #[J af 0] 62:=by rw[hV];exact((V.new _ _ _ _).alloc _).alloc _
  have k1:V aI (u.heap.size+1) #[E a b0.length R] 41:=by
   have k:=V.new (u.alloc (an #[J af 0] 62)) #[E a b0.length R] 41 (0,0);rw[d8] at k;rw[hV];exact k.alloc _
  have k2:V aI (u.heap.size+2) #[.func (.func lO) #[] #[]] 117:=by
   have k:=V.new ((u.alloc (an #[J af 0] 62)).alloc (an #[E a b0.length R] 41)) #[.func (.func lO) #[] #[]] 117 (0,0);rw[d8,d8] at k;rw[hV];exact k
  rw[<-hV];have ad8:=Z.next' nA;have iQ:=atY (m:=3) G (af:=af) (N:=N) vN lO jm aw (λed u5=>ha.a_ (bu.bg (ad8.next' u5))) k1 k2 k3 (λed u5 k K=>hE ed (ad8.next' u5) k K);refine(im.1 (ape 5 G 91 _ N _ b0.length G aI iQ (fg aCb bq rfl) (λce Q C az _ K=>⟨az.1,λi ag=>by
   obtain⟨b,h1,h2⟩:=az.2 i ag;exact⟨b,h1,K _ _ _ _ h2⟩⟩) (λce Q az=>az.1))).mono ?_
  rintro e D ⟨v,ce,rfl,az,ar,hb⟩;obtain⟨ot,EO,hs,aK⟩:=ar.ic;subst aK;exact⟨ot,EO,hs,rfl,at0 ar hf.jo U_ az.1 az.2,nA.next' hb⟩
 have yR:∀k (h:k<b0.length),0<=b0[k]/\b0[k]<N:=λk h=>ar _ (gB h);have UK:=I (uj 49 (Ax g N) (fg func49 bq rfl) (λx=>by unfold Ax;rw[iT,tK]) (λu Z k K=>(Ty af g N hf b0[k] (yR k K) u (dE.a_ (bu.bg Z))).mono (by
  rintro e D ⟨v,rfl,h,hb⟩;obtain⟨bz,bv,cx,dD,c2,b4,aS,C,rfl,h1,h2,_⟩:=O8 h;exact⟨bz,bv,cx,dD,c2,rfl,by rw[<-at2 h1];exact h2,hb⟩)))
 have p6:=I (uj 50 (Ay g N) (fg func50 bq rfl) (λx=>by unfold Ay;rw[iT,tK]) (λu Z k K=>(N' af g N hf b0[k] (yR k K) u (dE.a_ (bu.bg Z))).mono (by
  rintro e D ⟨v,rfl,h,hb⟩;obtain⟨bz,bv,cx,dD,c2,b4,aS,C,rfl,h1,h2,_⟩:=O8 h;exact⟨bz,bv,cx,dD,c2,rfl,by rw[<-at1 h1];exact h2,hb⟩)))
 have pZ:aM (∀x∈b0,0<=x/\x<g.nodes):=λx ak=>by have:=ar x ak;have:=hf.nodes;omega
 have dq:=I hf;have fG:=I aw;go_in;go_wp2_with fail;refine eO (gn.o w (bx _ _)) ?_;go_wp2_with fail;refine dl at4.o λaJ a5=>?_;have jf:=I (gn.o aJ a5);have jL:=I (kl.o aJ a5);have dT:=I a5;go_wp2_with fail;refine eO jf.o ?_;go_wp2_with fail;refine jL.o.mono ?_;rintro e ba ⟨v1,rfl,ml,ck⟩;have g4:=jv rfl ml;obtain⟨a1,aV,aK,_⟩:=id g4;subst aK;have dh:=I (dT.o.next' ck);have HH:=I g4;have pT:=I (vL.o 49 ba);have Jw:=I (UK.o ba (dT.o.next' ck));go_wp2_with fail;refine eO pT.o ?_;go_wp2_with fail;refine Jw.o.mono ?_;rintro e bi ⟨ot,EO,hs,rfl,cf,c_⟩;have g6:=I (dh.o.next' c_);have at5:=I cf;have Eg:=I (HH.o.a_ (bu.bg c_));have Uj:=I (vL.o 50 bi);have at6:=I (p6.o bi (dh.o.next' c_));go_wp2_with fail;refine eO Uj.o ?_;go_wp2_with fail;refine at6.o.mono ?_;rintro e bD ⟨fe,at7,aCH,rfl,cf,cT⟩;have hd:=I (g6.o.next' cT);have Ed:=I cf;have ts:=db (Eg.o.a_ (bu.bg cT)) (at5.o.a_ (bu.bg cT));go_wp2_with fail;go_ret;have oa:ae bD (bD.alloc (an #[r c N,E a1 b0.length aV,E ot EO hs,E fe at7 aCH] 119)):=fb;refine⟨bD.heap.size,rfl,⟨⟨_,_,_,_,V.new _ _ _ _,ts.o.1.a_ (bu.bg oa),ts.o.2.a_ (bu.bg oa),Ed.o.a_ (bu.bg oa)⟩,bI fG.o,pZ.o,dq.o.nodes,dq.o.jo⟩,hd.o.size,hd.o.next' oa⟩
theorem U' (hf:jz g N) (dE:eq w af g) {aY:Nat} {aF:List Int} (fh:aF.length=N) (ah:V w aY (c6 c aF) 2) (hm:0<=m/\m<N):
 aE aa 176 #[J af 0,E (A (B aY 0)) N N,r c m] w λe D=>e=au (b8 #[])/\(∃e9,e9.length=N/\V D aY (c6 c e9) 2)/\Kept (·=aY) w D:=by
 have yv:∀(x y z:ac) (w:O),(aCa 160 (aZ #[x,y,z]) 0).run aa w= .ok x w:=λ_ _ _ _=>by kernel_rfl
 have p6:=I ((N' af g N hf m hm w dE).mono (R':=λe D=>∃bz bv cx dD c2 b4,e=au (aZ #[E (A (B bz 0)) N N,E (A (B bv 0)) N N,E cx dD c2])/\b4.length=N/\V D bz (c6 c b4) 2 (0,0)/\w.heap.size<=bz/\ae w D) (by
  rintro e D ⟨v,rfl,h,hb⟩;have h:=h;obtain⟨bz,bv,d_,b4,aS,C,rfl,h1,h2,ap,bl,cL,_⟩:=h;obtain⟨cx,dD,c2,rfl⟩:∃a n R,d_=E a n R:=by
   rcases bl.2 with⟨e,_⟩|⟨_,_,_,e,_⟩
   ·exact⟨_,_,_,e⟩
   ·exact⟨_,_,_,e⟩
  exact⟨bz,bv,cx,dD,c2,b4,rfl,h1.tg,h2,cL,hb⟩))
 have vB:=hf.jo;have cS:=I ah;have jd:=I fh;go_in;go_wp2_with fail;refine p6.o.mono ?_;rintro e ay ⟨bz,bv,cx,dD,c2,b4,rfl,RJ,uY,hT,aX⟩;have mh:=cS.o.lt;have cj:=I (show Kept (·=aY) w ay/\∃e9,e9.length=N/\V ay aY (c6 c e9) 2 (0,0) from⟨Kept.bg aX,aF,jd.o,cS.o.below aX mh⟩);have HG:=ig uY RJ (show bz≠aY by omega);have KC:=I (Kept.refl (·=aY) ay);have ft:=I aX;go_wp2_with fail;go_loopw [13] (λi wr=>∃k:Nat,k<=N/\i=r c k/\aM (Kept (·=aY) ay wr)/\aM (∃e9,e9.length=N/\V wr aY (c6 c e9) 2)) (λi _=>N-(cu i).toNat)
 ·exact⟨0,G,rfl,KC,I cj.o.2⟩
 ·obtain⟨k,K,rfl,ty,wj⟩:=hrel;by_cases a0:k<N
  ·have ie:(k:Int)<N:=G;have k0:=ew k;obtain⟨e9,KL,E4⟩:=wj.o;have wO:=ty.o.aH HG.o.1 HG.o.2.2;obtain⟨x,ak⟩:∃x,x=b4[k]'(bI HG.o.2.1):=⟨_,rfl⟩;obtain⟨y,az⟩:=al (e9[k]'G);have MB:=wO.cell k;rw[kd _ _ _ (bI HG.o.2.1),<-ak] at MB;have IG:=E4.cell k;rw[kd _ _ _ G,<-az] at IG;have nO:=E4.free k (.inr (cQ _));obtain⟨z,b5⟩:∃z,(if x<y then x else y)=z:=⟨_,rfl⟩;have c9:=I (show Kept (·=aY) ay (wr.setCell (B aY k) (r c z)) from Kept.setCell (S:=(·=aY)) (p:=B aY k) ty.o rfl _);have Ju:=I (show∃e9,e9.length=N/\V (wr.setCell (B aY k) (r c z)) aY (c6 c e9) 2 (0,0) from⟨e9.set k z,by rw[gN];exact KL,by
    have q:=E4.set k (r c z)
    rwa[tO] at q⟩)
   clear ak az;go_wp2_with fail;go_roundw
   ·exact⟨k+1,G,by go_num,c9,Ju⟩
   ·simp[cu];omega
  ·obtain rfl:k=N:=G;go_wp2_with fail;go_end0;exact⟨rfl,wj.o,(Kept.bg ft.o).trans ty.o⟩
theorem ad9 (hf:jz g N) (dE:eq w af g) {a:Option cp} (hL:cR w (E a L.length R) L) (aw:L.length<=12) (ar:∀x∈L,0<=x/\x<N):
 aE aa 171 #[J af 0,E a L.length R] w λe D=>∃aY aF,e=au (E (A (B aY 0)) N N)/\aF.length=N/\V D aY (c6 c aF) 2 (0,0)/\w.heap.size<=aY/\ae w D:=by
 obtain⟨b6,sa⟩:=al w.heap.size;obtain⟨ay,bA⟩:=al (w.alloc (an #[r c 72057594037927936] 2));have aX:=dx bA;have k1:=eK bA sa;have gn:=I (show aE aa 27 #[J af 0] ay λe D=>e=au (r c N)/\D=ay from by rw[hf.nodes];exact l3 af g ay (dE.a_ (bu.bg aX)));have at8:=I (aa4 72057594037927936 N hf.jo b6 ay (by have:=k1.cell 0;simpa using this));have dN:=db bA sa;have ft:=I aX;have dq:=I hf;have m0:=I dE;have fG:=I hL;have cW:=I ar;clear bA sa;go_in;go_wp2_with fail;rw[<-dN.o.1,<-dN.o.2];refine eO gn.o ?_;go_wp2_with fail;refine at8.o.mono ?_;rintro e aJ ⟨aY,rfl,hg,dC,a5⟩;have dT:=I (ft.o.next' a5);have go:=I (show w.heap.size<=aY from cM ft.o.size dC);have HG:=I (show∃aF,aF.length=N/\V aJ aY (c6 c aF) 2 (0,0) from⟨_,jD,hg⟩);go_wp2_with fail;go_loopw [14] (λi wr=>∃k:Nat,k<=L.length/\i=r c k/\aM (ae w wr)/\aM (∃aF,aF.length=N/\V wr aY (c6 c aF) 2)) (λi _=>L.length-(cu i).toNat)
 ·exact⟨0,G,rfl,dT,HG⟩
 ·obtain⟨k,K,rfl,rb,wj⟩:=hrel;by_cases a0:k<L.length
  ·have ie:(k:Int)<L.length:=G;have k0:=ew k;obtain⟨kC,cx,rfl,d⟩:=(fG.o.a_ (bu.bg rb.o)).at k a0;obtain⟨aF,fh,cd⟩:=wj.o;have oW:=I (U' dq.o (m0.o.a_ (bu.bg rb.o)) fh cd (cW.o _ (gB a0)));generalize L[k]=x at d oW;go_wp2_with fail;refine oW.o.mono ?_;rintro e ba ⟨rfl,at9,dv⟩;have dh:=I (rb.o.trans (dv.below rb.o.size (λj av=>by rw[av];exact go.o)));have aua:=I at9;go_wp2_with fail;go_roundw
   ·exact⟨k+1,G,by go_num,dh,aua⟩
   ·simp[cu];omega
  ·obtain rfl:k=L.length:=G;go_wp2_with fail;go_ret;obtain⟨aF,h1,h2⟩:=wj.o;exact⟨aY,aF,rfl,h1,h2,go.o,rb.o⟩
theorem aub {d3 aY:Nat} {aF:List Int} (eI:V w d3 #[E (A (B aY 0)) N N] 28) (fh:aF.length=N) (ah:V w aY (c6 c aF) 2) {y:Int} (ak:0<=x/\x<N) (az:0<=y/\y<N):aE aa 173 #[r c x,r c y,J d3 0] w λe D=>∃b,e=au (aA b)/\ae w D:=by
 obtain⟨i,rfl⟩:=r6 ak.1;obtain⟨j,rfl⟩:=r6 az.1;have kf:=aR eI 0;have ad_:=ah.cell i;have ad':=ah.cell j;rw[kd _ _ _ G] at ad_ ad';have eP:=ew i;have ku:=ew j;have js:(i:Int)<N:=ak.2;have n4:(j:Int)<N:=az.2;generalize aF[i]'G=a at ad_;generalize aF[j]'G=b at ad';clear ak az;go_in;go_wp2_with fail
 go_quiet (fail)
 go_wp2_with fail;go_ret;exact⟨_,rfl,below_drewN (bx _ _) _⟩
theorem auc (aK:cR w aN L) (aw:L.length<=12) (h0:L≠[]) (fw:Nat) (jm:∀args w,(gM fw args).run aa w= .ok (.enter fw args) w) (eN:Array ac)
 (ah:∀u,ae w u->∀x∈L,∀y∈L,aE aa fw (#[r c x,r c y]++eN) u λe D=>∃b,e=au (aA b)/\ae u D):
 aE aa 172 #[aN,.func (.func fw) #[] eN] w λe D=>∃x,e=au (r c x)/\x∈L/\ae w D:=by
 obtain⟨a,R,rfl,_⟩:=id aK;have kx:=I aK;have cS:=I ah;have hM:=I h0;go_in;go_wp2_with fail;go_loopw [4,9] (λx i wr=>∃(k:Nat) (y:Int),k<=L.length/\i=r c k/\x=r c y/\aM (ae w wr/\(0<k->y∈L))) (λ_ i _=>L.length-(cu i).toNat)
 ·exact⟨0,0,G,rfl,rfl,I ⟨bx _ _,λh=>by omega⟩⟩
 ·obtain⟨k,y,K,rfl,rfl,bZ⟩:=hrel;by_cases a0:k<L.length
  ·have ie:(k:Int)<L.length:=G;have k0:=ew k;obtain⟨kC,cx,rfl,d⟩:=(kx.o.a_ (bu.bg bZ.o.1)).at k a0;have eU:=I (gB a0);obtain⟨z,b5⟩:=al (L[k]);rw[<-b5] at d eU;by_cases jl:k=0
   ·subst jl;rw[uH] at d;have c9:=I (show ae w wr/\(0<0+1->z∈L) from⟨bZ.o.1,λ_=>eU.o⟩);clear b5;go_wp2_with fail;go_roundw
    ·exact⟨1,z,G,by go_num,rfl,c9⟩
    ·simp[cu];omega
   ·have Jo:((k:Int)==0)=ao:=by rw[beq_eq_false_iff_ne];omega
    have oW:=I (cS.o wr bZ.o.1 z eU.o y (bZ.o.2 G));clear b5;go_wp2_with fail;refine oW.o.mono ?_;rintro e eM ⟨b,rfl,hb⟩;have q_:=I (show ae w eM/\(0<k+1->z∈L) from⟨bZ.o.1.next' hb,λ_=>eU.o⟩);have aud:=I (show ae w eM/\(0<k+1->y∈L) from⟨bZ.o.1.next' hb,λ_=>bZ.o.2 G⟩);cases b with
    |true=>
     go_wp2_with fail;go_roundw
     ·exact⟨k+1,z,G,by go_num,rfl,q_⟩
     ·simp[cu];omega
    |false=>
     go_wp2_with fail;go_roundw
     ·exact⟨k+1,y,G,by go_num,rfl,aud⟩
     ·simp[cu];omega
  ·obtain rfl:k=L.length:=G;go_wp2_with fail;go_ret;have:0<L.length:=aiJ.2 hM.o;exact⟨y,rfl,bZ.o.2 this,bZ.o.1⟩
theorem aue {dc:Nat} (h9:V w dc #[r c m] 3) (x:Int):aE aa 175 #[r c x,J dc 0] w λe D=>e=au (aA (x==m))/\D=w:=by
 have rz:=aR h9 0;obtain⟨q,aO⟩:∃q,(x==m)=q:=⟨_,rfl⟩;rw[aO];go_in;go_wp2_with fail;go_ret;exact⟨rfl,rfl⟩
theorem aea:∀(zm:List Int) (o:Nat) {w:O} {X:List Int},V w b (c6 c X) t fr->o+zm.length<=X.length->∃jJ,jJ.length=X.length/\jJ.take o=X.take o/\V (w.setCells b o (zm.map (Value.int c))) b (c6 c jJ) t fr
 |[],_,_,X,h,_=>⟨X,rfl,rfl,h⟩
 |v::U,o,w,X,h,aw=>by
  have q:=h.set o (r c v);rw[tO] at q;rw[fV] at aw;obtain⟨jJ,h1,h2,ap⟩:=aea U (o+1) q (by rw[gN];omega);refine⟨jJ,by rw[h1,gN],?_,ap⟩;have e:=congrArg (List.take o) h2;rw[QL,QL,XJ G] at e;rw[e];exact aCc (bY o)
theorem aeb:∀(zm:List ac) (o:Nat) (w:O),Kept (·=b) w (w.setCells b o zm)
 |[],_,_=>Kept.refl _ _
 |v::U,o,w=>(Kept.setCell (S:=(·=b)) (p:=⟨b,o,T⟩) (Kept.refl _ w) rfl v).trans (aeb U (o+1) _)
theorem auf (aK:cR w aN L) (aw:L.length<=1000) (del:Int->Bool) (fw:Nat) (jm:∀args w,(gM fw args).run aa w= .ok (.enter fw args) w) (eN:Array ac)
 (ah:∀x,aE aa fw (#[r c x]++eN) w λe D=>e=au (aA (del x))/\D=w):
 aE aa 161 #[aN,.func (.func fw) #[] eN] w λe D=>((e=au (r c (-1))/\∀x∈L,del x=ao)\/(∃k:Nat,e=au (r c k)/\k<L.length/\(∀h:k<L.length,del L[k]=ad)/\∀j (h:j<L.length),j<k->del L[j]=ao))/\D=w:=by
 obtain⟨a,R,rfl,_⟩:=id aK;go_in;go_wp2_with fail;go_loopw [8] (λi wr=>∃k:Nat,k<=L.length/\i=r c k/\aM (wr=w/\∀j (h:j<L.length),j<k->del L[j]=ao)) (λi _=>L.length-(cu i).toNat)
 ·exact⟨0,G,rfl,I ⟨rfl,λj _ h=>by omega⟩⟩
 ·obtain⟨k,K,rfl,bZ⟩:=hrel;have aug:=bZ.o.1;subst aug;by_cases a0:k<L.length
  ·have ie:(k:Int)<L.length:=G;have k0:=ew k;obtain⟨kC,cx,rfl,d⟩:=aK.at k a0;have oW:=ah L[k];obtain⟨q,aO⟩:=al (del L[k]);obtain⟨x,ak⟩:=al (L[k]);rw[<-aO,<-ak] at oW;rw[<-ak] at d;have hz:=I aO;clear aO ak;cases q with
   |true=>
    go_wp2_with fail;refine eO oW ?_;go_wp2_with fail;go_ret;exact⟨.inr ⟨k,rfl,a0,λ_=>hz.o.symm,bZ.o.2⟩,rfl⟩
   |false=>
    go_wp2_with fail;refine eO oW ?_;have c9:=I (show wr=wr/\∀j (h:j<L.length),j<k+1->del L[j]=ao from⟨rfl,λj h av=>by
     by_cases e:j<k
     ·exact bZ.o.2 j h e
     ·obtain rfl:j=k:=G;exact hz.o.symm⟩)
    go_wp2_with fail;go_roundw
    ·exact⟨k+1,G,by go_num,c9⟩
    ·simp[cu];omega
  ·obtain rfl:k=L.length:=G;go_wp2_with fail;go_ret;exact⟨.inl ⟨rfl,λx ak=>by obtain⟨j,av,rfl⟩:=Bd ak;exact bZ.o.2 j av av⟩,rfl⟩
theorem aec {p:Int->Bool} {j:Nat} (h:j<L.length):(L.take (j+1)).filter p=(L.take j).filter p++(if p L[j] then [L[j]] else []):=by
 rw[uI h,Xs]
 congr 1
 cases aP:p L[j]<;>simp[aP]
theorem Va {i:Nat} (h:i<X.length) (x:Int):(X.set i x).take (i+1)=X.take i++[x]:=by
 rw[uI (by rw[gN];exact h),Mg,aCc (bY i)]
structure O9 (w:O) (aW n:Nat) (CP:List Int) (del:Int->Bool) (i j:Nat) (u:O):Prop where
 le:i<j/\j<=n
 row:∃X,X.length=CP.length/\X.take i=((CP.take n).take j).filter (λx=>!del x)/\(∀t,i<=t->X[t]? =CP[t]?)/\V u aW (c6 c X) 3
 a_:Kept (·=aW) w u
theorem auh {cap:Nat} (hy:V w aW (c6 c X) 3) (aC:n<=cap) (yx:X.length=cap) (aw:cap<=12) (del:Int->Bool) fw (jm:∀args w,(gM fw args).run aa w= .ok (.enter fw args) w) (eN:Array ac)
 (ah:∀u,Kept (·=aW) w u->∀x,aE aa fw (#[r c x]++eN) u λe D=>e=au (aA (del x))/\D=u):
 aE aa 174 #[E (A (B aW 0)) n cap,.func (.func fw) #[] eN] w λe D=>∃jJ iC,e=au (E (A (B aW 0)) iC cap)/\iC<=n/\jJ.length=cap/\jJ.take iC=(X.take n).filter (λx=>!del x)/\V D aW (c6 c jJ) 3 (0,0)/\Kept (·=aW) w D:=by
 have hlen:(X.take n).length=n:=by rw[lS];omega
 have qS:cR w (E (A (B aW 0)) n cap) (X.take n):=⟨A (B aW 0),cap,by rw[hlen],by rw[hlen];exact aC,by unfold ff;omega,λi ag=>⟨aW,0,_,_,_,rfl,hy,by
  rw[jC,kd _ _ _ G,Mh]⟩⟩
 have aui:=I (auf qS G del fw jm eN (λx=>ah w (Kept.refl _ _) x));go_in;go_wp2_with fail;refine aui.o.mono ?_;rintro e eM ⟨⟨rfl,nH⟩|⟨k,rfl,K,pa,e6⟩,h⟩
 ·subst eM;go_wp2_with fail;go_ret;exact⟨X,n,rfl,bY _,yx,(aCd.2 λx ak=>by rw[nH x ak];rfl).symm,hy,Kept.refl _ _⟩
 ·subst eM;have s_:k<n:=bI hlen;have Jo:((k:Int)==(-1))=ao:=by rw[beq_eq_false_iff_ne];omega
  have ax:O9 w aW n X del k (k+1) w:=⟨⟨G,G⟩,⟨X,rfl,by
   have tr:k<(X.take n).length:=bI hlen;rw[aec tr,pa tr];rw[if_neg a3,yn,QL,XJ G];refine(aCd.2 λx ak=>?_).symm;obtain⟨j,av,rfl⟩:=Bd ak;have rp:j<k:=by rw[lS] at av;omega
   have:=e6 j G rp;rw[Mh] at this⊢;rw[this];rfl,λ_ _=>rfl,hy⟩,Kept.refl _ _⟩
  have cj:=I ax;go_wp2_with fail;go_loopw [5,6,7] (λi j _ wr=>∃(a b:Nat),i=r c a/\j=r c b/\a<b/\b<=n/\aM (O9 w aW n X del a b wr)) (λ_ j _ _=>n-(cu j).toNat)
  ·exact⟨k,k+1,rfl,by go_num,G,G,cj⟩
  ·obtain⟨a,b,rfl,rfl,zS,CC,jd⟩:=hrel;by_cases a0:b<n
   ·have ie:(b:Int)<n:=G;have sW:=ew b;have gG:=ew a;have a1:(a:Int)<n:=G;obtain⟨⟨h1,h2⟩,⟨Y,f8,h7,oq,uu⟩,iP⟩:=jd.o;have AB:Y.length=cap:=f8.trans yx;have Af:=uu.cell b;rw[kd _ _ _ G] at Af;have qF:=uu.cell a;rw[kd _ _ _ G] at qF;have eG:=uu.free a (.inr (cQ _));obtain⟨x,ak⟩:=al (Y[b]'G);have aed:(X.take n)[b]? =A x:=by
     have:=oq b G;rw[eA (show b<Y.length by omega),<-ak] at this;rw[List.getElem?_take,if_pos a0,<-this]
    rw[<-ak] at Af;obtain⟨z,b5⟩:=al (Y[a]'G);rw[<-b5] at qF;have oW:=ah wr iP x;obtain⟨q,aO⟩:=al (del x);rw[<-aO] at oW;have mT:b<(X.take n).length:=bI hlen;have auj:(X.take n)[b]=x:=by rw[eA mT] at aed;exact eT aed
    have EY:=aec (L:=X.take n) (p:=λx=>!del x) mT;rw[auj,<-aO] at EY;clear ak b5 aO;cases q with
    |true=>
     have c9:=I (show O9 w aW n X del a (b+1) wr from⟨⟨G,G⟩,⟨Y,f8,by rw[EY,if_neg a3,yn];exact h7,oq,uu⟩,iP⟩);go_wp2_with fail;refine eO oW ?_;go_wp2_with fail;go_roundw
     ·exact⟨a,b+1,rfl,by go_num,G,G,c9⟩
     ·simp[cu];omega
    |false=>
     have c9:=I (show O9 w aW n X del (a+1) (b+1) (wr.setCell (B aW a) (r c x)) from⟨⟨G,G⟩,⟨Y.set a x,by rw[gN];exact f8,by rw[Va (bI AB),EY,if_pos (show(!ao)=ad from rfl),h7],λt ht=>by
      rw[aiH,if_neg G];exact oq t G,by
      have q:=uu.set a (r c x)
      rwa[tO] at q⟩,Kept.setCell (S:=(·=aW)) (p:=B aW a) iP rfl _⟩)
     go_wp2_with fail;refine eO oW ?_;go_wp2_with fail;go_roundw
     ·exact⟨a+1,b+1,by go_num,by go_num,G,G,c9⟩
     ·simp[cu];omega
   ·obtain rfl:b=n:=G;obtain⟨⟨h1,h2⟩,⟨Y,f8,h7,oq,uu⟩,iP⟩:=jd.o;have AB:Y.length=cap:=f8.trans yx;have mh:∀kp,(Builtin.clear_ #[41] kp #[E (A (B aW a)) (b-a) (cap-a)]).run aa wr= .ok (b8 #[]) (wr.setCells aW a (d5 (b-a) (r c 0))):=
     λkp=>Lib.run_clear_slice wr 41 3 kp (r c 0) nG (λw=>BP w) rfl rfl aW a (b-a) (cap-a) G (λj av=>by
      rw[uu.cell (a+j),kd _ _ _ G];rfl) (λj av=>uu.free (a+j) (.inr (cQ _)))
    obtain⟨ja,fO,fD,iU⟩:=aea (d5 (b-a) 0) a uu (by rw[jD];omega);rw[List.map_replicate] at iU;have EI:=iP.trans (aeb (d5 (b-a) (r c 0)) a wr);have gG:=ew a;have a1:(a:Int)<=b:=G;have a2:(a:Int)<=cap:=G;have fR:=I (show ja.length=cap/\ja.take a=(X.take b).filter (λx=>!del x)/\_/\_ from⟨by rw[fO,AB],by rw[fD,h7,QL,Nat.min_self],iU,EI⟩);go_wp2_with fail;go_ret;exact⟨ja,a,rfl,G,fR.o.1,fR.o.2.1,fR.o.2.2.1,fR.o.2.2.2⟩
def p7 (W:O) (z:Nat):Option Nat:=match W.cell? (B z 0) with|some v=>v.ownBlock|none=>T
theorem wZ (h:ai.heap[z]? =Q.heap[z]?):p7 ai z=p7 Q z:=by unfold p7 FI;rw[show ai.heap[(B z 0:cp).block]? =Q.heap[(B z 0:cp).block]? from h]
structure tA (z:Nat) (W W':O):Prop where
 below:bQ z W W'
 cells:∀k cs t fr,V W k cs t fr->k≠z->p7 W z≠A k->V W' k cs t fr
 row:p7 W' z=p7 W z\/∃U,p7 W' z=A U/\W.heap.size<=U/\U<W'.heap.size
structure qK (z bB:Nat) (Q ai:O):Prop where
 os:ai.os=Q.os
 tape:ai.tape=Q.tape
 output:ai.output=Q.output
 size:Q.heap.size<=ai.heap.size
 block:∀k,k<Q.heap.size->(k<bB\/(∀cs t fr,Q.heap[k]? ≠A (an cs t fr))\/p7 Q z=A k)->ai.heap[k]? =Q.heap[k]?
theorem qK.bg (h:ae Q ai):qK z bB Q ai:=⟨h.os,h.tape,h.output,h.size,λk K _=>h.block k K⟩
theorem qK.s' (h:Kept (·=b) Q ai) (hb:bB<=b) (cd:V Q b cs t fr) (ar:p7 Q z≠A b):qK z bB Q ai:=
 ⟨h.os,h.tape,h.output,h.size,λk K aQ=>h.block k K (λe=>by
  have e:k=b:=e;subst e;rcases aQ with aQ|aQ|aQ
  ·omega
  ·exact aQ _ _ _ cd
  ·exact ar aQ)⟩
structure Core (z bB cc a' af first:Nat) (w W:O):Prop where
 below:bQ z w W
 size:bB<=W.heap.size
 sF:z<bB
 row:∀U,p7 W z=A U->bB<=U/\U<W.heap.size
 cO:V W cc #[J af 0] 62
 cq:V W a' #[r c first] 3
 bne:cc<bB/\cc≠z/\a'<bB/\a'≠z
theorem Core.later (h:Core z bB cc a' af first w W) (hb:ae W W'):Core z bB cc a' af first w W':=by
 have e:=wZ (hb.block z (g3 h.sF h.size));exact⟨h.below.trans (hb.mono (g3 h.sF h.size)),cM h.size hb.size,h.sF,λU ar=>by rw[e] at ar;have:=h.row U ar;have:=hb.size;omega,h.cO.aq hb,h.cq.aq hb,h.bne⟩
theorem Core.kept (h:Core z bB cc a' af first w W) (hb:Kept (·=b) W W') (aC:bB<=b):Core z bB cc a' af first w W':=by
 have b5:=h.sF;have aB:=h.size;have rM:=h.bne;have e:=wZ (hb.block z G (λe=>by have e:z=b:=e;omega));exact⟨h.below.trans (hb.below G (λk K=>by have K:k=b:=K;omega)),cM h.size hb.size,h.sF,λU ar=>by rw[e] at ar;have:=h.row U ar;have:=hb.size;omega,hb.aH h.cO (λe=>by have e:cc=b:=e;omega),hb.aH h.cq (λe=>by have e:a'=b:=e;omega),h.bne⟩
theorem Core.yield (h:Core z bB cc a' af first w W) (K:tA z W W'):Core z bB cc a' af first w W':=by
 have aC:=h.bne;refine⟨h.below.trans K.below,cM h.size K.below.size,h.sF,λU ar=>?_,K.cells _ _ _ _ h.cO aC.2.1 (λe=>by have:=h.row _ e;omega),K.cells _ _ _ _ h.cq aC.2.2.2 (λe=>by have:=h.row _ e;omega),aC⟩;rcases K.row with e|⟨oc,e,h1,h2⟩
 ·rw[e] at ar;have:=h.row U ar;have:=K.below.size;omega
 ·rw[e] at ar;obtain rfl:=eT ar;have:=h.size;omega
structure my (z bB:Nat) (W:O) (b:Nat) (cs:Array ac) (t:cY):Prop where
 aH:V W b cs t
 am:bB<=b
 row:p7 W z≠A b
theorem my.later (h:my z bB W b cs t) (b5:z<bB) (aB:bB<=W.heap.size) (hb:ae W W'):my z bB W' b cs t:=
 ⟨h.aH.aq hb,h.am,by rw[wZ (hb.block z G)];exact h.row⟩
theorem my.new (bJ:Core z bB cc a' af first w W) (hb:ae W W') (cd:V W' b cs t) (dC:W.heap.size<=b):my z bB W' b cs t:=
 ⟨cd,cM bJ.size dC,by
  rw[wZ (hb.block z (g3 bJ.sF bJ.size))];intro e;have:=bJ.row _ e;omega⟩
theorem my.kept (h:my z bB W b cs t) (b5:z<bB) (aB:bB<=W.heap.size) (K:Kept (·=R) W W') (ah:bB<=R) (b9:b≠R):my z bB W' b cs t:=
 ⟨K.aH h.aH b9,h.am,by rw[wZ (K.block z G (λe=>by have e:z=R:=e;omega))];exact h.row⟩
theorem my.yield (h:my z bB W b cs t) (b5:z<bB) (K:tA z W W'):my z bB W' b cs t:=
 ⟨K.cells _ _ _ _ h.aH (bI h.am) h.row,h.am,by
  rcases K.row with e|⟨U,e,h1,h2⟩
  ·rw[e];exact h.row
  ·rw[e];intro a4;obtain rfl:=eT a4;have:=h.aH.lt;omega⟩
def p8 (N:Nat) (P:List Int):Prop:=P.Nodup/\∀x∈P,0<=x/\x<N
structure E6 (z bB aW d3 N n:Nat) (P:List Int) (W:O):Prop where
 left:∃X,X.length=N/\my z bB W aW (c6 c X) 3/\p8 N (X.take n)/\∀x∈P,x∉X.take n
 told:p8 N P
 many:P.length+n=N
 cover:∃aY aF,aF.length=N/\my z bB W d3 #[E (A (B aY 0)) N N] 28/\my z bB W aY (c6 c aF) 2
theorem E6.later {d3:Nat} {P:List Int} (h:E6 z bB aW d3 N n P W) (b5:z<bB) (aB:bB<=W.heap.size) (hb:ae W W'):E6 z bB aW d3 N n P W':=by
 obtain⟨X,h1,h2,ap⟩:=h.left;obtain⟨aY,aF,k1,k2,k3⟩:=h.cover;exact⟨⟨X,h1,h2.later b5 aB hb,ap⟩,h.told,h.many,aY,aF,k1,k2.later b5 aB hb,k3.later b5 aB hb⟩
theorem aul {iC:Nat} {jJ P:List Int} (hy:p8 N (X.take n)) (hm:m∈X.take n) (dj:p8 N P) (a9:∀x∈P,x∉X.take n) (aC:P.length+n=N) (oC:X.length=N) (akW:jJ.length=N) (he:jJ.take iC=(X.take n).filter (λx=>!(x==m))) (hle:iC<=n):
 p8 N (P++[m])/\p8 N (jJ.take iC)/\(∀x∈P++[m],x∉jJ.take iC)/\(P++[m]).length+iC=N:=by
 have b9:=aBh hy.1 m;have hlen:(jJ.take iC).length=iC:=by rw[lS];omega
 have o9:((X.take n).filter (λx=>!(x==m))).length=(X.take n).length-1:=by
  have e:(λx:Int=>!(x==m))=λx=>x !=m:=rfl;rw[e,<-b9,aik hm]
 have O':(X.take n).length=n:=by rw[lS];omega
 have BE:0<(X.take n).length:=List.length_pos_of_mem hm;refine⟨⟨?_,?_⟩,⟨?_,?_⟩,?_,?_⟩
 ·rw[A'];exact⟨dj.1,a3,λa ha b hb=>by
   obtain rfl:=f2.1 hb;intro e;subst e;exact a9 _ ha hm⟩
 ·intro x ak;rcases fJ.1 ak with ak|ak
  ·exact dj.2 x ak
  ·obtain rfl:=f2.1 ak;exact hy.2 _ hm
 ·rw[he];exact hy.1.filter _
 ·intro x ak;rw[he] at ak;exact hy.2 x (Dj.1 ak).1
 ·intro x ak u0;rw[he] at u0;obtain⟨h1,h2⟩:=Dj.1 u0;rcases fJ.1 ak with ak|ak
  ·exact a9 x ak h1
  ·obtain rfl:=f2.1 ak;simp at h2
 ·rw[gW,w_];rw[he,o9,O'] at hlen;omega
def KM:ac->Nat
 |E _ n _=>n
 |_=>0
theorem aum (N:Nat):p8 N (m4 N):=by
 refine⟨?_,λx ak=>Uu ak⟩;unfold m4;exact Qy.2 (List.nodup_range.imp λh e=>h G)
theorem aun (h:V W aW (c6 c X) t) (hy:X.length=N) (aC:n<=N) (b1:N<=1000000):cR W (E (A (B aW 0)) n N) (X.take n):=
 have aw:(X.take n).length=n:=by rw[lS];omega
 ⟨A (B aW 0),N,by rw[aw],by rw[aw];exact aC,by unfold ff;omega,λi ag=>⟨aW,0,_,_,_,rfl,h,by
  rw[jC,kd _ _ _ G,Mh]⟩⟩
theorem auo (m:Nat) (hm:1<=m) (hf:jz g N) (DF:∀u,bQ z w u->eq u af g) (yv:first<N) (gd:Nat) (bG iu:List Int->O->Prop) (W:O) (bJ:Core z bB cc a' af first w W)
 (ee:∀s Q ai,bG s Q->qK z bB Q ai->bG s ai)
 (ei:∀pre x d9,bG pre d9->pre.length<N->o4 dY (m-1) aa gd (iI x) d9 λe W'=>(e=au (aA ad)/\bG (pre++[x]) W'/\tA z d9 W')\/(e=au (aA ao)/\iu (pre++[x]) W')) (h0:bG [] W):
 ge dY m aa 170 #[.func (.yield gd) #[] #[],J cc 0,J a' 0] W λe W'=>(∃v,e=au v)/\((∃b7,(b7.length=N/\p8 N b7)/\bG b7 W')\/(∃pre,(pre≠[]/\p8 N pre)/\iu pre W')):=by
 have vB:=hf.jo;obtain⟨aW,hT⟩:=al W.heap.size;obtain⟨d9,mb⟩:=al (W.alloc (an (c6 c (d5 N 0)) 3));have aX:=dx mb;have xZ:=I (bJ.later aX);have GU:=I (show∃X,X.length=N/\X.take 0=m4 0/\my z bB d9 aW (c6 c X) 3 from⟨_,jD,rfl,my.new bJ aX (by rw[mb,hT];exact V.new _ _ _ _) G⟩);have Pa:=I (ee _ _ _ h0 (qK.bg aX));have gn:=I (show aE aa 27 #[J af 0] W λe D=>e=au (r c N)/\D=W from by rw[hf.nodes];exact l3 af g W (DF W bJ.below));have jT:=ys (P:=aa) 41 3 c 8 nG NN N G G;have aV:=aR bJ.cO 0;have cX:=db mb hT;have g_:=@hJ aa;clear mb hT;refine kL aCe rfl trivial ?_ rfl;simp only[ntmps170,g0,fV,gp,gA,g1,gI,gJ,gK,gL,f1,fW];gi_wp2_with fail;refine⟨trivial,?_⟩;refine yH (im.2 gn.o) ?_;gi_wp2_with fail;rw[<-cX.o.1,<-cX.o.2];gi_loopw [14] (λi wr=>∃(k:Nat),k<=N/\i=r c k/\aM (Core z bB cc a' af first w wr)/\aM (∃X,X.length=N/\X.take k=m4 k/\my z bB wr aW (c6 c X) 3)/\aM (bG [] wr)) (λi _=>N-(cu i).toNat)
 ·exact⟨0,cQ _,rfl,xZ,GU,Pa⟩
 ·obtain⟨k,K,rfl,tB,aee,ky⟩:=hrel;by_cases a0:k<N
  ·have ie:(k:Int)<N:=G;have k0:=ew k;obtain⟨X,oC,E7,dK⟩:=aee.o;have KN:=dK.aH.cell k;rw[kd _ _ _ G] at KN;have Ge:=dK.aH.free k (.inr (cQ _));generalize X[k]'G=y at KN;have iP:Kept (·=aW) wr (wr.setCell (B aW k) (r c k)):=Kept.setCell (S:=(·=aW)) (p:=B aW k) (Kept.refl _ wr) rfl _;have BY:=I (tB.o.kept iP dK.am);have AH:=I (ee _ _ _ ky.o (qK.s' iP dK.am dK.aH dK.row));have aup:=I (show∃X,X.length=N/\X.take (k+1)=m4 (k+1)/\my z bB (wr.setCell (B aW k) (r c k)) aW (c6 c X) 3 from⟨X.set k (k:Int),by rw[gN];exact oC,by rw[Va G,E7,Ut],by
    have q:=dK.aH.set k (r c k);rw[tO] at q;exact q,dK.am,by
     have b5:=tB.o.sF;rw[wZ (iP.block z (bI tB.o.size) (λe=>by have e:z=aW:=e;have:=dK.am;omega))];exact dK.row⟩)
   gi_wp2_with fail;go_roundw
   ·exact⟨k+1,G,by go_num,BY,aup,AH⟩
   ·simp[cu];omega
  ·obtain rfl:k=N:=G;obtain⟨wS,E2⟩:=al wr.heap.size;obtain⟨aJ,cK⟩:=al (wr.alloc (an #[r c first] 3));have a5:=dx cK;have xP:=eK cK E2;have ri:=tB.o.later a5;have Vb:=I (ad9 hf (DF _ ri.below) (a:=A (B wS 0)) (R:=1) (L:=[(first:Int)]) ⟨A (B wS 0),1,rfl,bY _,by unfold ff;omega,λi ag=>by
    have ve:i=0:=by have:i<1:=ag;omega
    subst ve;exact⟨wS,0,_,_,_,rfl,xP,rfl⟩⟩ a3 (λx ak=>by have:=f2.1 ak;have:=yv;omega))
   have d1:=aR tB.o.cO 0;have d2:=aR tB.o.cq 0;have mc:=db cK E2;obtain⟨X,oC,E7,dK⟩:=aee.o;have b5:=tB.o.sF;have ze:=tB.o.size;have auq:=I (show∃X,X.length=k/\X.take k=m4 k/\my z bB aJ aW (c6 c X) 3 from⟨X,oC,E7,dK.later b5 ze a5⟩);have JW:=I (ee _ _ _ ky.o (qK.bg a5));clear cK E2;gi_wp2_with fail;rw[<-mc.o.2,<-mc.o.1];refine pD Vb.o ?_;rintro e ba ⟨aY,aF,rfl,AU,mN,Vc,ck⟩;obtain⟨d3,eS⟩:=al ba.heap.size;obtain⟨bi,d6⟩:=al (ba.alloc (an #[E (A (B aY 0)) k k] 28));have c_:=dx d6;have KO:=ck.next' c_;have vO:=I (ri.later KO);have b5:=ri.sF;have hK:=ri.size;have tw:=I (ee _ _ _ JW.o (qK.bg KO));have AV:=I (show E6 z bB aW d3 k k [] bi from by
    obtain⟨X,h1,h2,ap⟩:=auq.o;exact⟨⟨X,h1,ap.later b5 hK KO,by rw[h2];exact aum k,λx ak=>(by cases ak)⟩,⟨QM,λx ak=>(by cases ak)⟩,a3,aY,aF,AU,my.new ri KO (by rw[d6,eS];exact V.new _ _ _ _) (by rw[eS];exact ck.size),my.new ri KO (mN.aq c_) Vc⟩)
   have mM:=db d6 eS;clear eS d6;gi_wp2_with fail;rw[<-mM.o.2,<-mM.o.1];gi_loopw [4,7] (λu2 i wr=>∃(n:Nat) (P:List Int),n<=k/\u2=E (A (B aW 0)) n k/\i=r c (P.length:Nat)/\aM (Core z bB cc a' af first w wr)/\aM (E6 z bB aW d3 k n P wr)/\aM (bG P wr)) (λu2 _ _=>KM u2)
   ·exact⟨k,[],bY _,rfl,rfl,vO,AV,tw⟩
   ·obtain⟨n,P,On,rfl,rfl,tB,p6,ky⟩:=hrel;by_cases r':0<n
    ·have aEX:(0:Int)<n:=G;obtain⟨X,oC,qL,AW,HI⟩:=p6.o.left;obtain⟨aEY,uw,xy,E8,aur⟩:=p6.o.cover;have O':(X.take n).length=n:=by rw[lS];omega
     have aus:=I (auc (aun qL.aH oC On G) G (λe=>by rw[e] at O';simp at O';omega) 173 (fg func173 bq rfl) #[J d3 0] (λu Z x ak y az=>aub (E8.aH.aq Z) xy (aur.aH.aq Z) (AW.2 x ak) (AW.2 y az)));have aEZ:=p6.o.many;have e_:=I (show P.length<k by omega);have sv:=jU oC qL AW HI;have aE0:((P.length:Nat):Int)<=12:=G;gi_wp2_with fail;refine pD aus.o ?_;rintro e bD ⟨x,rfl,ak,cT⟩;obtain⟨dc,kX⟩:=al bD.heap.size;obtain⟨cG,fq⟩:=al (bD.alloc (an #[r c x] 3));have jn:=dx fq;have AX:=cT.next' jn;have Vd:=I (tB.o.later AX);have b5:=tB.o.sF;have ze:=tB.o.size;have k8:=eK fq kX;have KP:=I (my.new tB.o AX k8 (by rw[kX];exact cT.size));have CF:=I (p6.o.later b5 ze AX);have aut:=I (sv.o.2.1.later b5 ze AX);have aef:dc≠aW:=λe=>by have:=sv.o.2.1.aH.lt;have:=cT.size;omega
     have auu:=ee _ _ _ ky.o (qK.bg AX);obtain⟨fn,tmps,assign,body,az,cf⟩:=ei P x cG auu e_.o;dsimp only[iI] at az;have QU:=aR k8 0;rw[fq,kX] at QU;have g8:=db fq kX;rw[fq] at az;clear fq kX;gi_wp2_with fail;rw[<-g8.o.2,<-g8.o.1];refine cf.mono ?_;rintro e ls (⟨rfl,ER,lh⟩|⟨rfl,zE⟩)
     ·have b5:=Vd.o.sF;have Cc:=Vd.o.size;have Ve:=I (Vd.o.yield lh);have Pb:=KP.o.yield b5 lh;have qL:=aut.o.yield b5 lh;obtain⟨oC,_,AW,HI⟩:=sv.o;obtain⟨aY,aF,auv,eS,mN⟩:=CF.o.cover;have eS:=eS.yield b5 lh;have mN:=mN.yield b5 lh;have auw:=I (auh qL.aH On oC G (λy=>y==x) 175 (fg func175 bq rfl) #[J dc 0] (λu Z y=>aue (Z.aH Pb.aH aef) y));have aux:=jU Pb qL eS mN;have aeg:=I (AW.2 x ak);clear eS;gi_wp2_with fail;refine pD auw.o ?_;rintro e fQ ⟨jJ,iC,rfl,hle,aeh,auy,auz,qn⟩;obtain⟨oC,_,AW,HI⟩:=sv.o;have KQ:=aul AW ak p6.o.told HI p6.o.many oC aeh auy hle;have b5:=Ve.o.sF;have E9:=Ve.o.size;obtain⟨Pb,qL,eS,mN⟩:=aux.o;have auA:d3≠aW:=λe=>by
       have q:=qL.aH;rw[<-e] at q;exact absurd (er eS.aH q) bj
      have IJ:aY≠aW:=λe=>by
       have q:=qL.aH;rw[<-e] at q;exact absurd (er mN.aH q) bj
      have E_:=I (Ve.o.kept qn qL.am);have Vf:=I (Pb.kept b5 E9 qn qL.am aef);have Pc:=db KQ.1 KQ.2.2.2;have D2:iC<n:=by have:=KQ.2.2.2;have:=p6.o.many;rw[gW,w_] at*;omega
      have aei:=I (show∃X,X.length=k/\my z bB fQ aW (c6 c X) 3/\p8 k (X.take iC)/\∀y∈P++[x],y∉X.take iC from⟨jJ,aeh,⟨auz,qL.am,by rw[wZ (qn.block z G (λe=>by have e:z=aW:=e;have:=qL.am;omega))];exact qL.row⟩,KQ.2.1,KQ.2.2.1⟩);have Pd:=I (show∃aY aF,pA aF=k/\my z bB fQ d3 #[E (A (B aY 0)) k k] 28/\my z bB fQ aY (c6 c aF) 2 from⟨aY,aF,auv,eS.kept b5 E9 qn qL.am auA,mN.kept b5 E9 qn qL.am IJ⟩);have aej:=I (ee _ _ _ ER (qK.s' qn qL.am qL.aH qL.row));clear eS;by_cases auB:P.length=0
      ·have auC:((P.length:Nat):Int)=0:=G;have Vb:=I (ad9 hf (DF _ E_.o.below) (a:=T) (R:=0) (L:=[]) ⟨T,0,rfl,bY _,cQ _,λi ag=>absurd ag (Dh _)⟩ a3 (λy az=>(by cases az)));have d1:=aR E_.o.cO 0;have auD:(((P.length:Nat):Int)==0)=ad:=by rw[beq_iff_eq];exact auC
       gi_wp2_with fail;refine pD Vb.o ?_;rintro e gY ⟨aY,aF,rfl,AU,mN,Vc,km⟩;have b5:=E_.o.sF;have kR:=E_.o.size;have aek:=E_.o.later km;obtain⟨_,_,_,eS,_⟩:=Pd.o;have eS:=eS.later b5 kR km;have aE1:=aR eS.aH 0;have Pe:=eS.aH.free 0 (.inr (cQ _));have auE:=my.new E_.o km mN Vc;obtain⟨X,cI,dB,hX,ya⟩:=aei.o;have dB:=dB.later b5 kR km;have iP:Kept (·=d3) gY (gY.setCell (B d3 0) (E (A (B aY 0)) k k)):=Kept.setCell (S:=(·=d3)) (p:=B d3 0) (Kept.refl _ gY) rfl _;have E9:=aek.size;have qB:aW≠d3:=λe=>by
        have q:=eS.aH;rw[<-e] at q;exact absurd (er dB.aH q) bj
       have auF:aY≠d3:=λe=>by
        have q:=eS.aH;rw[<-e] at q;exact absurd (er mN q) bj
       have auG:dc≠d3:=λe=>by
        have q:=eS.aH;rw[<-e] at q;exact absurd (er (Vf.o.later b5 kR km).aH q) bj
       have oB:=I (aek.kept iP eS.am);have KP:=I ((Vf.o.later b5 kR km).kept b5 E9 iP eS.am auG);have AN:=I (show(∃X,X.length=k/\my z bB (gY.setCell (B d3 0) (E (A (B aY 0)) k k)) aW (c6 c X) 3/\p8 k (X.take iC)/\∀y∈P++[x],y∉X.take iC)/\∃ael aF,pA aF=k/\my z bB (gY.setCell (B d3 0) (E (A (B aY 0)) k k)) d3 #[E (A (B ael 0)) k k] 28/\my z bB (gY.setCell (B d3 0) (E (A (B aY 0)) k k)) ael (c6 c aF) 2 from
        ⟨⟨X,cI,dB.kept b5 E9 iP eS.am qB,hX,ya⟩,aY,aF,AU,⟨eS.aH.set 0 _,eS.am,by rw[wZ (iP.block z G (λe=>by have e:z=d3:=e;have:=eS.am;omega))];exact eS.row⟩,auE.kept b5 E9 iP eS.am auF⟩)
       have yb:=I (ee _ _ _ (ee _ _ _ aej.o (qK.bg km)) (qK.s' iP eS.am eS.aH eS.row));clear eS;obtain⟨aY,aF,AU,eS,mN⟩:=AN.o.2;have Vg:=DF _ oB.o.below;have oW:=I (U' hf Vg AU mN.aH (aeg.o));have d1:=aR oB.o.cO 0;have aCI:=aR eS.aH 0;have QU:=aR KP.o.aH 0;have eH:=db eS mN;clear eS;gi_wp2_with fail;refine pD oW.o ?_;rintro e Vh ⟨rfl,⟨e9,KL,E4⟩,qv⟩;have b5:=oB.o.sF;have kR:=oB.o.size;have b9:d3≠aY:=λe=>by
        have q:=eH.o.2.aH;rw[<-e] at q;exact absurd (er eH.o.1.aH q) bj
       have KA:aW≠aY:=λe=>by
        have q:=eH.o.2.aH;obtain⟨X,_,h2,_⟩:=AN.o.1;rw[<-e] at q;exact absurd (er h2.aH q) bj
       have Vi:=I (oB.o.kept qv eH.o.2.am);have Vj:=I (ee _ _ _ yb.o (qK.s' qv eH.o.2.am eH.o.2.aH eH.o.2.row));have Ks:=I (show E6 z bB aW d3 k iC (P++[x]) Vh from by
        obtain⟨X,h1,h2,ap⟩:=AN.o.1;exact⟨⟨X,h1,h2.kept b5 kR qv eH.o.2.am KA,ap⟩,Pc.o.1,Pc.o.2,aY,e9,KL,eH.o.1.kept b5 kR qv eH.o.2.am b9,⟨E4,eH.o.2.am,by rw[wZ (qv.block z G (λe=>by have e:z=aY:=e;have:=eH.o.2.am;omega))];exact eH.o.2.row⟩⟩)
       gi_wp2_with fail;go_roundw
       ·exact⟨iC,P++[x],G,rfl,by rw[gW];go_num,Vi,Ks,Vj⟩
       ·simp[KM];omega
      ·have auD:(((P.length:Nat):Int)==0)=ao:=by rw[beq_eq_false_iff_ne];omega
       have oB:=E_;have KP:=Vf;have AN:=db aei.o Pd.o;have yb:=aej;obtain⟨aY,aF,AU,eS,mN⟩:=AN.o.2;have Vg:=DF _ oB.o.below;have oW:=I (U' hf Vg AU mN.aH (aeg.o));have d1:=aR oB.o.cO 0;have aCI:=aR eS.aH 0;have QU:=aR KP.o.aH 0;have eH:=db eS mN;clear eS;gi_wp2_with fail;refine pD oW.o ?_;rintro e Vh ⟨rfl,⟨e9,KL,E4⟩,qv⟩;have b5:=oB.o.sF;have kR:=oB.o.size;have b9:d3≠aY:=λe=>by
        have q:=eH.o.2.aH;rw[<-e] at q;exact absurd (er eH.o.1.aH q) bj
       have KA:aW≠aY:=λe=>by
        have q:=eH.o.2.aH;obtain⟨X,_,h2,_⟩:=AN.o.1;rw[<-e] at q;exact absurd (er h2.aH q) bj
       have Vi:=I (oB.o.kept qv eH.o.2.am);have Vj:=I (ee _ _ _ yb.o (qK.s' qv eH.o.2.am eH.o.2.aH eH.o.2.row));have Ks:=I (show E6 z bB aW d3 k iC (P++[x]) Vh from by
        obtain⟨X,h1,h2,ap⟩:=AN.o.1;exact⟨⟨X,h1,h2.kept b5 kR qv eH.o.2.am KA,ap⟩,Pc.o.1,Pc.o.2,aY,e9,KL,eH.o.1.kept b5 kR qv eH.o.2.am b9,⟨E4,eH.o.2.am,by rw[wZ (qv.block z G (λe=>by have e:z=aY:=e;have:=eH.o.2.am;omega))];exact eH.o.2.row⟩⟩)
       gi_wp2_with fail;go_roundw
       ·exact⟨iC,P++[x],G,rfl,by rw[gW];go_num,Vi,Ks,Vj⟩
       ·simp[KM];omega
     ·gi_wp2_with fail;refine gh (mQ rfl _ _ _) rfl ?_;refine⟨⟨_,rfl⟩,.inr ⟨_,⟨a3,?_⟩,zE⟩⟩;obtain⟨oC,qL,AW,HI⟩:=sv.o;have dj:=p6.o.told;refine⟨?_,?_⟩
      ·rw[A'];exact⟨dj.1,a3,λa ha b hb=>by
        obtain rfl:=f2.1 hb;intro e;subst e;exact HI _ ha ak⟩
      ·intro y az;rcases fJ.1 az with az|az
       ·exact dj.2 y az
       ·obtain rfl:=f2.1 az;exact AW.2 _ ak
    ·obtain rfl:n=0:=G;gi_wp2;go_end0;exact⟨⟨_,rfl⟩,.inl ⟨P,⟨bI p6.o.many,p6.o.told⟩,ky.o⟩⟩
theorem auH (af aY N:Nat) (g:Raw) (P R:Nat) (ah:1<=R) (yA:R<=256):KJ af aY N g P R:=by
 induction R using Nat.strongRecOn with
 |_ R d4=>
  by_cases h:R=1
  ·subst h;exact atu af aY N g P
  ·exact atv af aY N g P R G yA (d4 (R/2) G G G) (d4 (R-R/2) G G G)
theorem auI (hf:jz g N) (h:eq w af g) (b1:1<=N) (ah:1<=R) (yA:R<=256):
 aE aa 59 #[J af 0,r c R] w λe D=>∃aY C,e=au (E (A (B aY 0)) N N)/\C.length=N/\(∀y∈C,zk y)/\V D aY (c6 c C) 3 (0,0)/\cR D (E (A (B aY 0)) N N) C/\ae w D:=by
 have vB:=hf.jo;have jT:=ys (P:=aa) 41 3 c 8 nG NN N G G;have gn:aM (∀u,ae w u->aE aa 27 #[J af 0] u λe D=>e=au (r c N)/\D=u):=λu Z=>by rw[hf.nodes];exact l3 af g u (h.a_ (bu.bg Z))
 obtain⟨aY,mN⟩:=al w.heap.size;obtain⟨P,dj⟩:=al (aY+1);obtain⟨bv,NZ⟩:=al (P+1);obtain⟨aJ,cK⟩:=al ((w.alloc (an (c6 c (d5 N 0)) 3)).alloc (an #[J af 0,E (A (B aY 0)) N N,r c 0] 180));obtain⟨ba,cg⟩:=al (aJ.alloc (an (c6 c (d5 N 0)) 3));have hK:aJ.heap.size=bv:=by rw[cK,NZ,dj,mN];simp
 have a5:=oQ cK;have ck:=dx cg;have Cw:V aJ aY (c6 c (d5 N 0)) 3:=by rw[cK,mN];exact(V.new _ _ _ _).alloc _
 have Gj:V aJ P #[J af 0,E (A (B aY 0)) N N,r c 0] 180:=by
  have k:=V.new (w.alloc (an (c6 c (d5 N 0)) 3)) #[J af 0,E (A (B aY 0)) N N,r c 0] 180 (0,0);rw[d8] at k;rw[cK,dj];rw[mN] at k⊢;exact k
 have auJ:V ba bv (c6 c (d5 N 0)) 3:=by rw[cg,<-hK];exact V.new _ _ _ _
 have xt:ut ba P af aY N:=(show ut aJ P af aY N from⟨⟨0,bj,Gj⟩,_,jD,λy az=>by rw[Mb az];decide,Cw⟩).later ck;have go:=I (show aY<bv/\P<bv/\w.heap.size<=aY/\w.heap.size<=P/\w.heap.size<=bv/\ba.heap.size=bv+1 from⟨G,G,G,G,G,by rw[cg];simp[hK]⟩);have dN:=qV cK cg mN dj NZ;have auK:=I (gn.o aJ a5);have auL:=I (gn.o w (bx _ _));have hQ:=ig (a5.next' ck) xt auJ;have c9:=I h;have auM:=I (auH af aY N g P R ah yA);have KC:=I hK;have aE2:(1:Int)<=R:=G;have aE3:(R:Int)<=256:=G;clear cK cg dj NZ hK;go_in;go_wp2_with fail;refine eO auL.o ?_;go_wp2_with fail;rw[<-mN,<-dN.o.2.2.2.1,<-dN.o.1];clear mN;refine eO auK.o ?_;go_wp2_with fail;rw[KC.o,<-dN.o.2.1];have lY:=I (show(∃X,X.length=N/\X.take 0=m4 0/\V ba bv (c6 c X) 3)/\Kept (λk=>k=bv) ba ba from⟨⟨_,jD,rfl,hQ.o.2.2⟩,Kept.refl _ _⟩);go_loopw [29] (λi wr=>∃(k:Nat),k<=N/\i=r c k/\aM ((∃X,X.length=N/\X.take k=m4 k/\V wr bv (c6 c X) 3)/\Kept (λk=>k=bv) ba wr)) (λi _=>N-(cu i).toNat)
 ·exact⟨0,cQ _,rfl,lY⟩
 ·obtain⟨k,K,rfl,bZ⟩:=hrel;by_cases a0:k<N
  ·have ie:(k:Int)<N:=G;have k0:=ew k;obtain⟨X,oC,E7,dK⟩:=bZ.o.1;have KN:=dK.cell k;rw[kd _ _ _ G] at KN;have Ge:=dK.free k (.inr (cQ _));generalize X[k]'G=y at KN;have pZ:=I (show(∃X,X.length=N/\X.take (k+1)=m4 (k+1)/\V (wr.setCell (B bv k) (r c k)) bv (c6 c X) 3)/\Kept (λk=>k=bv) ba (wr.setCell (B bv k) (r c k)) from⟨⟨X.set k (k:Int),by rw[gN];exact oC,by rw[Va G,E7,Ut],by
    have q:=dK.set k (r c k);rw[tO] at q;exact q⟩,Kept.setCell (S:=λk=>k=bv) (p:=B bv k) bZ.o.2 rfl _⟩)
   clear oC;go_wp2_with fail;go_roundw
   ·exact⟨k+1,G,by go_num,pZ⟩
   ·simp[cu];omega
  ·obtain rfl:k=N:=G;obtain⟨X,oC,E7,dK⟩:=bZ.o.1;obtain⟨mY,mr,th,xK,vq,ux⟩:=go.o;have qS:∀u,Kept (λb=>b=P\/b=aY) wr u->cR u (E (A (B bv 0)) (m4 k).length k) (m4 k)/\eq u af g:=λu Z=>by
    have br:X=m4 k:=by rw[<-E7,Qp G]
    have Cd:V u bv (c6 c X) 3:=Z.aH dK (λe=>by omega);refine⟨?_,c9.o.a_ (bu.bg (show ae w u from hQ.o.1.trans ((bZ.o.2.below G (λk K=>by omega)).trans (Z.below (bI bZ.o.2.size) (λk K=>by omega)))))⟩;rw[<-br];exact⟨A (B bv 0),k,rfl,G,by unfold ff;omega,λi ag=>⟨bv,0,_,_,_,rfl,Cd,by rw[jC,kd _ _ _ ag]⟩⟩
   have um:ut wr P af aY k:=by
    obtain⟨x,U6,ak⟩:=hQ.o.2.1.par;obtain⟨C,vM,E1,ri⟩:=hQ.o.2.1.row;exact⟨⟨x,U6,bZ.o.2.aH ak (λe=>by have e:P=bv:=e;omega)⟩,C,vM,E1,bZ.o.2.aH ri (λe=>by have e:aY=bv:=e;omega)⟩
   have x7:=auM.o wr (A (B bv 0)) k (m4 k) um (by rw[Kq];omega) (λx ak=>Uu ak) qS;rw[Kq] at x7;have auN:=I x7;clear oC;go_wp2_with fail;refine auN.o.mono ?_;rintro e gY ⟨rfl,O4,DR⟩;obtain⟨x,_,ak⟩:=O4.par;have aV:gY.cell? (B P 1)=A (E (A (B aY 0)) k k):=ak.cell 1;have OW:=db O4 DR;go_wp2_with fail;go_ret;obtain⟨C,vM,E1,ri⟩:=OW.o.1.row;obtain⟨mY,mr,th,xK,vq,ux⟩:=go.o;refine⟨aY,C,rfl,vM,E1,ri,?_,hQ.o.1.trans ((bZ.o.2.below G (λk K=>by omega)).trans (OW.o.2.below (bI bZ.o.2.size) (λk K=>by omega)))⟩;exact⟨A (B aY 0),k,by rw[vM],G,by unfold ff;omega,λi ag=>⟨aY,0,_,_,_,rfl,ri,by rw[jC,kd _ _ _ ag]⟩⟩
def uy (am fv:Nat) (W W':O):Prop:=bQ am W W'/\W'.heap[fv]? =W.heap[fv]?
theorem uy.trans {am:Nat} (h:uy am fv Q ai) (k:uy am fv ai C):uy am fv Q C:=⟨h.1.trans k.1,k.2.trans h.2⟩
theorem uy.put {am:Nat} (dC:am<=w.heap.size) (ng:fv<w.heap.size) (W:O) (l:Nat) (o dt:Obj) (aw:w.heap.size<=l) (h:W.heap[l]? =A o) (h1:o.isCells=ao) (h2:o.isWalk=ao):uy am fv W (W.putObj l dt):=
 ⟨L' dC W l o dt aw h h1 h2,jr G⟩
theorem aep (k:Nat) (p:Option cp) (w:O):
 ge dY k aa 103 #[a6 p] w λe D=>e=au (.func (.func 186) #[] #[J w.heap.size 0])/\D=w.alloc (an #[a6 p] 62):=by
 refine kL func103 rfl trivial ?_ rfl;simp only[ntmps103,g0,fV,gp,gA,g1,gI,gJ,gK,gL,f1,fW];gi_wp2;go_ret;exact⟨rfl,rfl⟩
def KS (x:Int×Int):Array ac:=#[r c x.1,r c x.2]
def AY (N k:Nat):List (Fin N):=(pC N).take k
theorem auQ (h:k<N):AY N (k+1)=AY N k++[⟨k,h⟩]:=by
 unfold AY;rw[uI (by simpa using h)];simp
theorem auR (h:k<=N):(AY N k).length=k:=by unfold AY;simp;omega
theorem auS (N k:Nat):AY N k<+:pC N:=Qn _ _
theorem auT (N:Nat):AY N N=pC N:=Qp a3
structure Ph (cJ:O) (am:Nat) (p:Option cp) (N:Nat) (f:Nat->Int×Int):Prop where
 many:∀u,bQ am cJ u->aE aa 27 #[a6 p] u λe D=>e=au (r c N)/\D=u
 place:∀u,bQ am cJ u->∀k,k<N->aE aa 187 #[a6 p,r c k] u λe D=>∃b,e=au (b8 #[r c (f k).1,r c (f k).2,aA b])/\D=u
 dR:N<=1000000000
theorem auU (m:Nat) (hm:1<=m) (L fv am:Nat) (cJ:O) (p:Option cp) (N:Nat) (f:Nat->Int×Int) (dj:Ph cJ am p N f) (bG iu:List (Fin N)->O->Prop)
 (ei:∀(pre:List (Fin N)) (x:Fin N) W,bG pre W->pre.length<N->o4 dY (m-1) aa L (KS (f x)) W λe W'=>
  (e=au (aA ad)/\bG (pre++[x]) W'/\uy am fv W W')\/(e=au (aA ao)/\iu (pre++[x]) W'))
 (W:O) (hW:bQ am cJ W) (ng:V W fv #[a6 p] 62) (h0:bG [] W):
 ge dY m aa 186 #[.func (.yield L) #[] #[],J fv 0] W λe W'=>(∃v,e=au v)/\
  ((∃ce,ce=pC N/\bG ce W')\/(∃pre,pre<+:pC N/\iu pre W')):=by
 have aV:=ng.cell 0;change W.cell? (B fv 0)=A (a6 p) at aV;have b1:=dj.dR;have Ui:=I (dj.many W hW);have bP:=I ng;have dN:=I hW;have hM:=I h0;clear ng hW h0;refine kL aiR rfl trivial ?_ rfl;simp only[ntmps186,g0,fV,gp,gA,g1,gI,gJ,gK,gL,f1,fW];gi_wp2_with(refine⟨trivial,?_⟩;gi_at_call 27;refine(im.2 Ui.o).mono ?_;rintro e D ⟨rfl,rfl⟩)
 gi_loopw [9] (λi wr=>∃(k:Nat),k<=N/\i=r c k/\aM (bQ am cJ wr)/\aM (V wr fv #[a6 p] 62)/\aM (bG (AY N k) wr)) (λi _=>N-(cu i).toNat)
 ·exact⟨0,cQ _,rfl,dN,bP,hM⟩
 ·obtain⟨k,K,rfl,hb,CC,ee⟩:=hrel;have d1:=CC.o.cell 0;change wr.cell? (B fv 0)=A (a6 p) at d1;by_cases a0:k<N
  ·have x7:=I (dj.place wr hb.o k a0);obtain⟨⟨wJ,yc⟩,qU⟩:∃x,x=f k:=⟨_,rfl⟩;rw[<-qU] at x7;dsimp only at x7;have fY:=auQ a0;have Vk:=I fY;have lT:=auS N (k+1);rw[fY] at lT;have auV:=I lT;obtain⟨fn,tmps,assign,body,az,cf⟩:=ei (AY N k) ⟨k,a0⟩ wr ee.o (by rw[auR K];exact a0);rw[show f (⟨k,a0⟩:Fin N)=(wJ,yc) from qU.symm] at az;dsimp only[KS] at az;clear fY lT qU;gi_wp2_with(refine⟨trivial,?_⟩;gi_at_call 187;refine(im.2 x7.o).mono ?_;rintro e ay ⟨EC,rfl,rfl⟩)
   refine cf.mono ?_;rintro e dI (⟨rfl,ho,dv⟩|⟨rfl,og⟩)
   ·have hQ:=I (hb.o.trans dv.1);have dh:=I (show V dI fv #[a6 p] 62 (0,0) from dv.2.trans CC.o);have lf:=I ho;clear dv ho;gi_wp2;go_roundw
    ·exact⟨k+1,G,by go_num,hQ,dh,I (by rw[Vk.o];exact lf.o)⟩
    ·simp[cu];omega
   ·gi_wp2;refine gh (mQ rfl _ _ _) rfl ?_;exact⟨⟨_,rfl⟩,.inr ⟨_,auV.o,og⟩⟩
  ·obtain rfl:k=N:=G;gi_wp2;go_end0;exact⟨⟨_,rfl⟩,.inl ⟨_,rfl,by rw[<-auT];exact ee.o⟩⟩
theorem aeq (m:Nat) (hm:1<=m) (fv am:Nat) (cJ:O) (p:Option cp) (N:Nat) (f:Nat->Int×Int) (dj:Ph cJ am p N f) (w:O) (hW:bQ am cJ w) (dC:am<=w.heap.size) (ng:V w fv #[a6 p] 62):
 SeqStopsK dY m aa 186 #[J fv 0] (λx:Fin N=>KS (f x)) (uy am fv) (λce=>ce=pC N) (λpre=>pre<+:pC N) N w:=λL bG iu W hb _ _ ei h0=>
 auU m hm L fv am cJ p N f dj bG iu ei W (hW.trans (hb.mono dC)) (ng.aq hb) h0
theorem auW (w:O) (p:Nat) (g:Raw) (h:eq w p g) (bK:g.e2):Ph w w.heap.size (A (B p 0)) g.nodes.toNat λk=>(wI g.X k,wI g.Y k):=by
 have aC:=bK.nodes;have e:((g.nodes.toNat:Nat):Int)=g.nodes:=G;refine⟨λu Z=>?_,λu Z k K=>?_,G⟩
 ·rw[e];exact l3 p g u (h.a_ (bu.bg Z))
 ·refine(ack p g k u (h.a_ (bu.bg Z))).mono ?_;rintro e D ⟨rfl,rfl⟩;exact⟨_,rfl,rfl⟩
theorem tA.trans (h:tA z Q ai) (k:tA z ai C):tA z Q C:=by
 refine⟨h.below.trans k.below,λb cs t fr hb b5 ar=>k.cells b cs t fr (h.cells b cs t fr hb b5 ar) b5 (λe=>?_),?_⟩
 ·rcases h.row with br|⟨U,br,h1,h2⟩
  ·exact ar (by rw[<-br];exact e)
  ·rw[br] at e;obtain rfl:=eT e;have:=hb.lt;omega
 ·rcases k.row with a4|⟨U,a4,h1,h2⟩
  ·rcases h.row with br|⟨U,br,ap,bl⟩
   ·exact .inl (a4.trans br)
   ·exact .inr ⟨U,a4.trans br,ap,jP bl k.below.size⟩
  ·exact .inr ⟨U,a4,cM h.below.size h1,h2⟩
theorem tA.T6 {l:Nat} {o dt:Obj} (b5:z<l) (aQ:W.heap[l]? =A o) (ah:o.isCells=ao):tA z W (W.putObj l dt):=
 ⟨vx (bx _ _) G,λk cs t fr hb _ _=>(rJ aQ ah hb).trans hb,.inl (wZ (jr G))⟩
theorem tA.bg (h:ae Q ai) (b5:z<Q.heap.size):tA z Q ai:=
 ⟨h.mono G,λk cs t fr hb _ _=>hb.aq h,.inl (wZ (h.block z b5))⟩
structure p9 (z bB:Nat) (w W:O) (v:ac) (aj:List Int):Prop where
 box:Boxed W z 41 v
 row:W.ownsRow bB 3 1 v aj.length (aj.flatMap ec)
 below:bQ z w W
 size:bB<=W.heap.size
theorem p9.p7 {v:ac} (h:p9 z bB w W v aj):p7 W z=v.ownBlock:=by unfold Go.Proofs.YtnmliebconiefaaGreatDoor.p7;rw[h.box.cell]
theorem p9.dy {v:ac} (h:p9 z bB w Q v aj) (b5:C.heap[z]? =Q.heap[z]?) (ar:∀k,v.ownBlock=A k->C.heap[k]? =Q.heap[k]?) (hb:bQ z w C) (aB:Q.heap.size<=C.heap.size):p9 z bB w C v aj:=
 ⟨b5.trans h.box,fB h.row ar,hb,cM h.size aB⟩
theorem qK.below (h:qK z bB Q ai) (b5:z<bB) (aB:bB<=Q.heap.size):bQ z Q ai:=⟨h.os,h.tape,h.output,h.size,λk K=>h.block k G (.inl G)⟩
theorem p9.st {v:ac} (h:p9 z bB w Q v aj) (b5:z<bB) (K:qK z bB Q ai):p9 z bB w ai v aj:=
 h.dy (K.block z h.box.lt (.inl b5)) (λk e=>K.block k (by obtain⟨_,_,aO⟩:=di h.row e;exact aO.lt) (.inr (.inr (by rw[h.p7];exact e)))) (h.below.trans (K.below b5 h.size)) K.size
theorem p9.put {v:ac} (h:p9 z bB w Q v aj) (b5:z<bB) {l:Nat} {o dt:Obj} (aw:bB<=l) (aQ:Q.heap[l]? =A o) (ah:o.isCells=ao):p9 z bB w (Q.putObj l dt) v aj:=
 h.dy (jr G) (λk e=>by obtain⟨_,_,aO⟩:=di h.row e;exact rJ aQ ah aO) (vx h.below G) a3
theorem p9.alloc {v:ac} (h:p9 z bB w Q v aj) (b5:z<bB) (o:Obj):p9 z bB w (Q.alloc o) v aj:=
 h.dy (px _ _ _ h.box.lt) (λk e=>by obtain⟨_,_,aO⟩:=di h.row e;exact px _ _ _ aO.lt) (h.below.alloc (bI h.size) _) a3
theorem p9.appended {ay:O} {v ca:ac} {tmp:Obj} (h:p9 z bB w W v aj) (b5:z<bB) (fZ:ay.ownsRow bB 3 1 ca (aj.length+1) (aj.flatMap ec++[r c x])) (hg:(W.alloc tmp).grownBy ay v.ownBlock) (gP:ca.ownBlock=v.ownBlock\/ca.ownBlock=A (W.alloc tmp).heap.size):
 Boxed ay z 41 v/\KeepsOthers W (ay.setCell (B z 0) ca)/\tA z W (ay.setCell (B z 0) ca)/\p9 z bB w (ay.setCell (B z 0) ca) ca (aj++[x]):=by
 have aB:=h.size;have nr:=Am h.row (am:=z) λk K=>by have:=(h.row.lt k K).1;omega
 have ml:=Am fZ (am:=z) λk K=>by have:=(fZ.lt k K).1;omega
 obtain⟨h5,lw,iq,e6,a5⟩:=h.box.appended bj nr G (bY _) ml hg;have Gg:Go.Proofs.YtnmliebconiefaaGreatDoor.p7 (ay.setCell (B z 0) ca) z=ca.ownBlock:=by unfold Go.Proofs.YtnmliebconiefaaGreatDoor.p7;rw[lw.cell]
 refine⟨h5,e6,⟨a5,?_,?_⟩,lw,?_,h.below.trans a5,cM aB a5.size⟩
 ·intro k cs t fr K h1 h2;rw[h.p7] at h2;exact((d7 _ _ _ _ h1).trans ((hg.block k (by have:=K.lt;simp;omega) (h8 h2)).trans (px _ _ _ K.lt))).trans K
 ·rw[Gg,h.p7];rcases gP with e|e
  ·exact .inl e
  ·refine .inr ⟨_,e,a3,?_⟩;exact(iq.lt _ e).2
 ·have ap:=Am iq (am:=bB) λk K=>(fZ.lt k K).1;rw[gW,w8];simpa [ec] using ap
theorem p8.le (h:p8 N L):L.length<=N:=by
 have:=h.1.length_le_of_subset (l₂:=(List.range N).map λi=>((i:Nat):Int)) λx ak=>by
  have:=h.2 x ak;exact jB.2 ⟨x.toNat,tI.2 G,G⟩
 rwa[iT,tK] at this
theorem avA (p:Option cp) (f:Nat) (w:O):aE aa 97 #[a6 p,r c f] w λe D=>e=au (.func (.func 170) #[] #[J w.heap.size 0,J (w.heap.size+1) 0])/\
 D=(w.alloc (an #[a6 p] 62)).alloc (an #[r c f] 3):=by
 have g_:=@hJ aa;go_in;go_wp2_with fail;go_ret;exact⟨rfl,rfl⟩
theorem avB (m:Nat) (hm:3<=m) (hf:jz g N) (h:eq w af g) (b1:1<=N) {kn uA:Nat} (fh:uz w kn uA l) (pa:1<=k) (Fg:k<=12) (aeT:∀u,Kept (·=kn) w u->eq u af g):
 ge dY m aa 51 #[J af 0,r c k,J kn 0] w λe D=>∃v L,e=au v/\cR D v L/\p8 N L/\1<=L.length/\L.length<=12/\Kept (·=kn) w D:=by
 have h1:1<=m:=G;have vB:=hf.jo;obtain⟨eP,ag,fL,gi,gt⟩:=m6 wn;have bZ:=jU ag fL gi gt;obtain⟨fU,fL⟩:=al w.heap.size;obtain⟨z,b5⟩:=al (fU+1);obtain⟨zo,yT⟩:=al ((w.alloc (an #[r c k] 3)).alloc (an #[E T 0 0] 41));have oa:=oQ yT;have k0:V zo fU #[r c k] 3:=by rw[yT,fL];exact(V.new _ _ _ _).alloc _
 have zg:V zo z #[E T 0 0] 41:=by
  have k:=V.new (w.alloc (an #[r c k] 3)) #[E T 0 0] 41 (0,0);rw[d8] at k;rw[yT,b5,fL];exact k
 have UE:zo.heap.size=z+1:=by rw[yT,b5,fL];simp
 have aeU:=h.a_ (bu.bg oa);have aeV:uz zo kn uA l:=by
  obtain⟨v,q1,q2,bm,cZ,ek,jg⟩:=fh;exact⟨v,q1.aq oa,q2.dy (λb e=>by rw[bm] at e;obtain rfl:=eT e;exact oa.block _ ek),bm,cZ,jP ek oa.size,jg⟩
 have Vs:kn<w.heap.size:=by obtain⟨v,q1,_⟩:=fh;exact q1.lt
 have gn:=I (show aE aa 27 #[J af 0] zo λe D=>e=au (r c N)/\D=zo from by rw[hf.nodes];exact l3 af g zo aeU);have ks:=I (aeO kn uA l N ⟨G,G⟩ zo aeV);have xX:0<=vP l N/\vP l N<N:=by
  unfold vP;rw[if_neg G];cases l with
  |nil=>exact⟨a3,by simp;omega⟩
  |cons x _=>exact⟨Ij _ G,FN _ G⟩
 obtain⟨first,yv⟩:∃q:Nat,(q:Int)=vP l N:=⟨(vP l N).toNat,G⟩;rw[<-yv] at ks xX;have bR:zo.cell? (B fU 0)=A (r c k):=k0.cell 0;have Po:=I k0;have aeW:=I zg;have CT:=ig oa UE Vs;have aeX:=I yT;have fR:=db fL b5;have dq:=I hf;have Fh:=I (cv aeT (cv xX (cv b1 (cv pa (cv Fg (cv vB hm))))));have Ge:decide ((k:Int)<1)=ao:=decide_eq_false G;rw[yT,fL] at bR;clear hf h fh aeT oa k0 zg UE aeU aeV Vs xX yv yT b1 pa Fg vB;refine sL func51 rfl trivial ?_ rfl;simp only[ntmps51,g0,fV,gp,gA,g1,gI,gJ,gK,gL,f1,fW];gi_wp2_with fail;rw[<-aeX.o,<-fL,<-b5];clear bR fL b5;refine jb gn.o λeM a4=>?_;subst eM;clear gn;gi_wp2_with fail;refine pD ks.o ?_;rintro e CU ⟨rfl,_,aeY⟩;have K1:=I aeY;clear ks aeY;gi_wp2_with fail;refine jb (avA (A (B af 0)) first CU) λcJ tC=>?_;have hl:=oQ tC;have k1:V cJ CU.heap.size #[J af 0] 62:=by rw[tC];exact(V.new _ _ _ _).alloc _
 have k2:V cJ (CU.heap.size+1) #[r c first] 3:=by
  have k:=V.new (CU.alloc (an #[J af 0] 62)) #[r c first] 3 (0,0);rw[d8] at k;rw[tC];exact k
 have ud:cJ.heap.size=CU.heap.size+2:=by rw[tC];simp
 have Pp:z+1<=CU.heap.size:=g3 K1.o.size CT.o.2.1;have Pq:=fR.o;have Vt:=CT.o.2.2;have aeZ:V cJ z #[E T 0 0] 41:=(K1.o.aH aeW.o (λe=>by have e:z=kn:=e;omega)).below hl G;have ae0:V cJ fU #[r c k] 3:=(K1.o.aH Po.o (λe=>by have e:fU=kn:=e;omega)).below hl G;have pt:Kept (·=kn) w cJ:=by
  have br:Kept (·=kn) w zo:=⟨CT.o.1.os,CT.o.1.tape,CT.o.1.output,CT.o.1.size,λk K _=>CT.o.1.block k K⟩;have a4:Kept (·=kn) CU cJ:=⟨hl.os,hl.tape,hl.output,hl.size,λk K _=>hl.block k K⟩;exact(br.trans K1.o).trans a4
 have cw:=qV aeZ ae0 k1 k2 pt;obtain⟨cc,je⟩:=al CU.heap.size;rw[<-je] at cw ud Pp⊢;have cj:=I (show cc+2<=cJ.heap.size/\cJ.heap.size<=cc+2/\z+1<=cc/\w.heap.size<=fU/\fU<z/\kn<w.heap.size from⟨G,G,Pp,G,G,Vt⟩);clear tC hl k1 k2 ud Pp Pq Vt aeZ ae0 pt je K1 aeW Po aeX CT;gi_wp2_with fail;obtain⟨ud,g4,Pp,aFc,Pq,Vt⟩:=cj.o;refine auk (F:=dY) rfl h1 (gf:=170) (lb:=#[J cc 0,J (cc+1) 0]) rfl trivial (fg aCe bq rfl)
  iI (λ_=>rfl) (qK z (cc+2)) (tA z) (λb7=>b7.length=N/\p8 N b7) (λpre=>pre≠[]/\p8 N pre) N
  (λgd bG iu W hb ee _ ei h0=>?hit)
  (λQ ai k o hst K aQ ah=>?hst)
  (λpre W=>∃v,p9 z (cc+2) cJ W v pre)
  (λs Q ai ⟨v,h⟩ hst=>⟨v,h.st G hst⟩)
  (λs Q l o dt ⟨v,h⟩ aw aQ ah=>⟨v,h.put G G aQ ah⟩)
  (λs Q o ⟨v,h⟩=>⟨v,h.alloc G o⟩)
  (λR pre W=>R= .exit 0/\∃v,p9 z (cc+2) cJ W v pre)
  (λR s Q ai ⟨e,v,h⟩ hst=>⟨e,v,h.st G hst⟩)
  (λR s Q l o dt ⟨e,v,h⟩ aw aQ ah=>⟨e,v,h.put G G aQ ah⟩)
  (λh1 h2=>h1.trans h2)
  (λW l o dt aw aQ ah=>tA.T6 G aQ ah)
  ⟨E T 0 0,cw.o.1,oG _ _ _ _,bx _ _,G⟩
  (λpre x a1 W=>a1={tmps:=#[J af 0,r c k,J kn 0,dr,J fU 0,dr,J z 0,r c x,J af 0,aA ao,aA ao,r c k,aA ao,aA ao,J af 0,J kn 0,J af 0,r c N,r c first,.func (.func 170) #[] #[J cc 0,J (cc+1) 0],r c x,dr,dr,dr,dr,dr,dr,dr,dr,dr],defers:=[]}/\∃v,p9 z (cc+2) cJ W v pre) ?aput ?assign ?body ?done ?stop
 case hit=>
  refine auo (m-1) (bI Fh.o.2.2.2.2.2.2) dq.o (w:=cJ) (bB:=cc+2) (z:=z) (first:=first) (N:=N) (af:=af) (cc:=cc) (a':=cc+1) ?_ (bI Fh.o.2.1) gd bG iu W ?_ ee ei h0
  ·intro u Z;refine Fh.o.1 u ⟨Z.os.trans cw.o.2.2.2.2.os,Z.tape.trans cw.o.2.2.2.2.tape,Z.output.trans cw.o.2.2.2.2.output,cM cw.o.2.2.2.2.size Z.size,λb hb b9=>(Z.block b G).trans (cw.o.2.2.2.2.block b hb b9)⟩
  ·have avC:=cw.o.1.aq hb;refine⟨hb.mono G,bI hb.size,G,?_,cw.o.2.2.1.aq hb,cw.o.2.2.2.1.aq hb,G⟩;intro U ar;unfold Go.Proofs.YtnmliebconiefaaGreatDoor.p7 at ar;rw[show W.cell? (B z 0)=A (E T 0 0) from avC.cell 0] at ar;cases ar
 case hst=>exact(hst.block k (gU.1 aQ).1 (.inr (.inl λcs t fr e=>by rw[aQ] at e;obtain rfl:=eT e;cases ah))).trans aQ
 case aput=>
  rintro pre x a1 W l o dt ⟨e,v,h⟩ aw aQ ah;exact⟨e,v,h.put G G aQ ah⟩
 case assign=>
  intro gd pre x W aT bS a0 dQ;dsimp only[iI];gi_wp2_with fail;exact dQ _ _ ⟨rfl,bS⟩ (aiC _ _) (tA.bg (bx _ _) (by obtain⟨v,h⟩:=bS;exact h.box.lt))
 case body=>
  rintro gd pre x a1 W ⟨rfl,v,gF⟩ a0;have ah:=gF.box.cell;have es:=gF.row;obtain⟨aN,eu,dw,rfl⟩:=es.ic;have hP:=gF.size;have lA:V W fU #[r c k] 3:=(gF.below.block fU G).trans cw.o.2.1;have NK:=I lA;have xR:=I hP;have sB:=Fh.o.2.2.2.2.2.1;by_cases avD:pre.length+1=k
  ·have f6:((pre.length:Int)+1==(k:Int))=ad:=by simp;omega
   clear avD;gi_wp2_with(gi_at_builtin;refine FR (F:=_) _ rfl _ _ 41 rfl (cc+2) 3 eP (r c 0) 1 8 nG bZ.o.1 bZ.o.2.1 bZ.o.2.2.1 bZ.o.2.2.2 rfl bj _ _ _ rfl (es.alloc _) (B W.heap.size 0) 1 1 [r c x] rfl rfl (FT _ _ _) (by simp[v7]) (by unfold ff;omega) G (by have:=xR.o;simp;omega) ?_;intro ca ay ow kH _ gP;obtain⟨qi,nl,rfl⟩:=FU ow;obtain⟨h5,e6,iP,hst⟩:=gF.appended G ow kH gP;have HG:=ig e6 iP hst;have pI:=h5.cell;have xS:=h5.frozen;have avE:=hst.box.cell;have qZ:FI _ (B fU 0)=A (r c k):=(show V _ fU #[r c k] 3 (0,0) from(hst.below.block fU Pq).trans cw.o.2.1).cell 0)
   have dd:=HG.o;exact⟨dd.1.from _,rfl,_,dd.2.2⟩
  ·have f6:((pre.length:Int)+1==(k:Int))=ao:=by simp;omega
   gi_wp2_with(gi_at_builtin;refine FR (F:=_) _ rfl _ _ 41 rfl (cc+2) 3 eP (r c 0) 1 8 nG bZ.o.1 bZ.o.2.1 bZ.o.2.2.1 bZ.o.2.2.2 rfl bj _ _ _ rfl (es.alloc _) (B W.heap.size 0) 1 1 [r c x] rfl rfl (FT _ _ _) (by simp[v7]) (by unfold ff;omega) G (by have:=xR.o;simp;omega) ?_;intro ca ay ow kH _ gP;obtain⟨qi,nl,rfl⟩:=FU ow;obtain⟨h5,e6,iP,hst⟩:=gF.appended G ow kH gP;have HG:=ig e6 iP hst;have pI:=h5.cell;have xS:=h5.frozen;have avE:=hst.box.cell;have qZ:FI _ (B fU 0)=A (r c k):=(show V _ fU #[r c k] 3 (0,0) from(hst.below.block fU Pq).trans cw.o.2.1).cell 0)
   have dd:=HG.o;exact⟨dd.1.from _,dd.2.1,_,dd.2.2⟩
 case done=>
  rintro aF b7 W fh ⟨hlen,l2⟩ ⟨v,gF⟩ ly;have hL:1<=b7.length/\b7.length<=12:=g3 Fh.o.2.2.1 Fh.o.2.2.2.2.2.1;obtain⟨aN,eu,dw,rfl⟩:=gF.row.ic;have ah:=gF.box.cell;have hf:=gF.box.frozen;have HG:=ig hL l2 gF;have Vu:=I ly;gi_wp2_with fail;have b1:=HG.o.2.2;have lw:=b1.box.set (E aN eu dw);have mo:=(QN W (B z 0) (E aN eu dw)).same aF _ Vu.o rfl;have iq:(W.setCell (B z 0) (E aN eu dw)).ownsRow (cc+2) 3 1 (E aN eu dw) _ _:=fB b1.row λk e=>by
   have aO:=(b1.row.lt k e).1;exact d7 _ _ _ _ (show k≠z by omega)
  have a5:bQ z cJ (W.setCell (B z 0) (E aN eu dw)):=b1.below.setCell (p:=B z 0) (bY _) _;refine vc (ai:=z) a3 _ _ ⟨⟨aF,rfl,G,mo,λdS h=>by cases h⟩,trivial⟩ λD eQ fi=>?_;have wR:D.cell? (B z 0)=A (E aN eu dw):=by
   have ap:=aR (eQ.aH (show V (W.setCell (B z 0) (E aN eu dw)) z _ _ _ from lw)) 0;exact ap
  have Z:=a5.trans fi;have pt:=cw.o.2.2.2.2;refine⟨E aN eu dw,by simp[gq,wR,go_sem],E aN eu dw,b7,rfl,?_,HG.o.2.1,HG.o.1.1,HG.o.1.2,⟨Z.os.trans pt.os,Z.tape.trans pt.tape,Z.output.trans pt.output,cM pt.size Z.size,λb hb b9=>(Z.block b G).trans (pt.block b hb b9)⟩⟩;exact jv rfl (fB iq (λk e=>by obtain⟨_,_,aO⟩:=di iq e;exact(eQ.aH aO).trans (show _=_ from aO).symm))
 case stop=>
  rintro aF R pre W fh ⟨b9,l2⟩ ⟨rfl,v,gF⟩ ly;have hL:1<=pre.length/\pre.length<=12:=⟨aiJ.2 b9,cM (l2.le) Fh.o.2.2.2.2.2.1⟩;obtain⟨aN,eu,dw,rfl⟩:=gF.row.ic;have ah:=gF.box.cell;have hf:=gF.box.frozen;have HG:=ig hL l2 gF;have Vu:=I ly;gi_wp2_with fail;have b1:=HG.o.2.2;have lw:=b1.box.set (E aN eu dw);have mo:=(QN W (B z 0) (E aN eu dw)).same aF _ Vu.o rfl;have iq:(W.setCell (B z 0) (E aN eu dw)).ownsRow (cc+2) 3 1 (E aN eu dw) _ _:=fB b1.row λk e=>by
   have aO:=(b1.row.lt k e).1;exact d7 _ _ _ _ (show k≠z by omega)
  have a5:bQ z cJ (W.setCell (B z 0) (E aN eu dw)):=b1.below.setCell (p:=B z 0) (bY _) _;refine vc (ai:=z) a3 _ _ ⟨⟨aF,rfl,G,mo,λdS h=>by cases h⟩,trivial⟩ λD eQ fi=>?_;have wR:D.cell? (B z 0)=A (E aN eu dw):=by
   have ap:=aR (eQ.aH (show V (W.setCell (B z 0) (E aN eu dw)) z _ _ _ from lw)) 0;exact ap
  have Z:=a5.trans fi;have pt:=cw.o.2.2.2.2;refine⟨E aN eu dw,by simp[gq,wR,go_sem],E aN eu dw,pre,rfl,?_,HG.o.2.1,HG.o.1.1,HG.o.1.2,⟨Z.os.trans pt.os,Z.tape.trans pt.tape,Z.output.trans pt.output,cM pt.size Z.size,λb hb b9=>(Z.block b G).trans (pt.block b hb b9)⟩⟩;exact jv rfl (fB iq (λk e=>by obtain⟨_,_,aO⟩:=di iq e;exact(eQ.aH aO).trans (show _=_ from aO).symm))
structure lk where
 v:Int
 d1:Nat
 a1:Nat
 ir:Option cp
 b2:Nat
 aV:Nat
 d2:Nat
 a2:Nat
 iO:Option cp
 cm:Nat
 bb:Nat
def jA (N b:Nat):ac:=E (A (B b 0)) N N
def vQ (N:Nat) (m:lk):List ac:=[r c m.v,jA N m.d1,jA N m.a1,E m.ir m.b2 m.aV,jA N m.d2,jA N m.a2,E m.iO m.cm m.bb]
theorem Pr (N:Nat) (m:lk):(vQ N m).length=7:=rfl
def ye (w:O) (N b:Nat):Prop:=∃X,X.length=N/\V w b (c6 c X) 2
structure l8 (am:Nat) (w:O) (v:ac) (M:List lk) (N:Nat):Prop where
 row:w.ownsRow am 288 7 v M.length (M.flatMap (vQ N))
 ok:∀m∈M,ye w N m.d1/\ye w N m.d2
theorem l8.nil (am:Nat) (w:O) (N:Nat):l8 am w (E T 0 0) [] N:=⟨oG _ _ _ _,λ_ h=>by cases h⟩
theorem ye.dy (h:ye w N b) (K:∀k cs fr,V w k cs 2 fr->u.heap[k]? =w.heap[k]?):ye u N b:=by
 obtain⟨X,h1,h2⟩:=h;exact⟨X,h1,(K _ _ _ h2).trans h2⟩
theorem l8.dy {am:Nat} {v:ac} {M:List lk} (h:l8 am w v M N) (ar:∀k,v.ownBlock=A k->u.heap[k]? =w.heap[k]?) (K:∀k cs fr,V w k cs 2 fr->u.heap[k]? =w.heap[k]?):l8 am u v M N:=
 ⟨fB h.row ar,λm hm=>⟨(h.ok m hm).1.dy K,(h.ok m hm).2.dy K⟩⟩
theorem l8.below {am:Nat} {v:ac} {M:List lk} (h:l8 am w v M N) (hb:ae w u):l8 am u v M N:=
 h.dy (λk e=>by obtain⟨_,_,aO⟩:=di h.row e;exact hb.block k aO.lt) λk cs fr aO=>hb.block k aO.lt
theorem l8.form {am:Nat} {v:ac} {M:List lk} (h:l8 am w v M N):∃a R,v=E a M.length R/\(0<M.length->∃g,a=A (B g 0)):=by
 obtain⟨a,R,e,q⟩:=qk h.row;exact⟨a,R,e,q⟩
theorem l8.at {am:Nat} {g:Nat} {M:List lk} (h:l8 am w (E (A (B g 0)) M.length R) M N) (K:k<M.length):
 w.cell? (B g (k*7))=A (r c M[k].v)/\w.cell? (B g (k*7+1))=A (jA N M[k].d1)/\w.cell? (B g (k*7+2))=A (jA N M[k].a1)/\w.cell? (B g (k*7+3))=A (E M[k].ir M[k].b2 M[k].aV)/\w.cell? (B g (k*7+4))=A (jA N M[k].d2)/\w.cell? (B g (k*7+5))=A (jA N M[k].a2)/\w.cell? (B g (k*7+6))=A (E M[k].iO M[k].cm M[k].bb):=by
 have ah:∀d,d<7->w.cell? (B g (k*7+d))=(vQ N M[k])[d]? :=λd a9=>by
  have cL:=h.row.cellAt (k*7+d) G;rw[IH 7 (vQ N) (Pr N) M k d a9,eA K] at cL;exact cL
 exact⟨ah 0 G,ah 1 G,ah 2 G,ah 3 G,ah 4 G,ah 5 G,ah 6 G⟩
theorem avF:(prog.info? 288).map (λi=>(i.zero,i.size,i.bytes))=A (A (aZ #[r c 0,E T 0 0,E T 0 0,E T 0 0,E T 0 0,E T 0 0,E T 0 0]),7,152):=bq
theorem l8.push {am:Nat} {v v2:ac} {M M2:List lk} (h:l8 am w v M N) (h2:r_ 7 w v2 M2.length (M2.flatMap (vQ N))) (bK:∀m∈M2,ye w N m.d1/\ye w N m.d2) (aw:M.length+M2.length<=1000) (dC:am<=w.heap.size):
 ∃ca D,(Builtin.append_ #[164,164] 164 #[v,v2]).run aa w= .ok ca D/\l8 am D ca (M++M2) N/\w.grownBy D v.ownBlock/\(ca.ownBlock=v.ownBlock\/ca.ownBlock=A w.heap.size)/\bQ am w D:=by
 obtain⟨eP,ag,fL,gi,gt⟩:=m6 avF;obtain⟨ca,D,ar,fZ,wO,gP,_⟩:=tU (P:=aa) am 164 164 288 eP _ 7 152 underlying164 ag fL gi gt rfl G v M.length _ h.row v2 M2.length _ h2 (by unfold ff;omega) G dC;have aO:∀k cs fr,V w k cs 2 fr->D.heap[k]? =w.heap[k]? :=λk cs fr hb=>wO.block k hb.lt λe=>by
  obtain⟨_,_,aO⟩:=di h.row e.symm;exact absurd (er hb aO) bj
 refine⟨ca,D,ar,⟨by rw[gW,w8];exact fZ,λm hm=>?_⟩,wO,gP,⟨wO.os,wO.tape,wO.output,wO.size,λk K=>wO.block k G λe=>?_⟩⟩
 ·rcases fJ.1 hm with hm|hm
  ·exact⟨(h.ok m hm).1.dy aO,(h.ok m hm).2.dy aO⟩
  ·exact⟨(bK m hm).1.dy aO,(bK m hm).2.dy aO⟩
 ·have:=(h.row.lt k e.symm).1;omega
theorem avG {g:Nat} {M:List lk} (hb:V w g cs t fr) (ah:∀(j:Nat) (u:ac),(M.flatMap (vQ N))[j]? =A u->cs[j]? =A u) (h1:M.length<=R) (h2:R<=1000):r_ 7 w (E (A (B g 0)) M.length R) M.length (M.flatMap (vQ N)):=
 ⟨F9 7 (vQ N) (Pr N) M,λu Z=>by
  obtain⟨m,_,ak⟩:=Xk.1 Z;simp only[vQ,gg,iS,or_false] at ak;rcases ak with rfl|rfl|rfl|rfl|rfl|rfl|rfl<;>rfl,_,R,rfl,h1,by unfold ff;omega,λj u Z=>⟨g,0,rfl,by rw[jC,hb.cell];exact ah j u Z⟩⟩
theorem l8.avH {am:Nat} {v:ac} {M:List lk} (h:l8 am w v M N) (aw:M.length<=1000):r_ 7 w v M.length (M.flatMap (vQ N)):=by
 refine⟨F9 7 (vQ N) (Pr N) M,λu Z=>?_,?_⟩
 ·obtain⟨m,_,ak⟩:=Xk.1 Z;simp only[vQ,gg,iS,or_false] at ak;rcases ak with rfl|rfl|rfl|rfl|rfl|rfl|rfl<;>rfl
 ·rcases id h.row.2 with⟨aK,h0⟩|⟨g,cap,cur,aK,q1,q2,bm,cZ,_⟩
  ·have h0:M.length=0:=h0;obtain rfl:M=[]:=Qx.1 h0;exact⟨T,0,aK,a3,cQ _,λj u Z=>by simp at Z⟩
  ·subst aK;refine⟨_,cap,rfl,bm,cZ,λj u Z=>⟨g,0,rfl,?_⟩⟩;rw[jC,h.row.cellAt j (by have:=(r4.1 Z).1;rwa[F9 7 (vQ N) (Pr N) M] at this)];exact Z
theorem avI (hf:jz g N) (h:eq w af g) {v:Int} (aK:0<=v/\v<N):aE aa 185 #[J af 0,r c v] w λe D=>e=au (aA ad)/\D=w:=by
 have c9:=I (l3 af g w h);rw[<-hf.nodes] at c9;obtain⟨h0,h1⟩:=aK;go_in;go_wp2_with fail;refine eO c9.o ?_;go_wp2_with fail;go_ret;exact⟨rfl,rfl⟩
theorem avJ {am:Nat} {M:List lk} {v:ac} (h:l8 am w v M N) (dU:M.length<=12) {U x:Nat} (ar:U<N) (ak:x<N):aE aa 256 #[v,r c U,r c x] w λe D=>∃z,e=au (r c z)/\ae w D:=by
 obtain⟨a,R,rfl,ha⟩:=h.form;have aFd:(U:Int)<N:=G;have UG:(x:Int)<N:=G;have r0:=ew U;have c0:=ew x;have H:=I h;have dM:=I ha;go_in;go_wp2_with fail;go_loopw [6,11] (λz i wr=>∃(k:Nat) (y:Int),k<=M.length/\i=r c k/\z=r c y/\aM (ae w wr)) (λ_ i _=>M.length-(cu i).toNat)
 ·exact⟨0,0,G,rfl,rfl,I (bx _ _)⟩
 ·obtain⟨k,y,K,rfl,rfl,bP⟩:=hrel;by_cases a0:k<M.length
  ·have ie:(k:Int)<M.length:=G;have k0:=ew k;obtain⟨g,rfl⟩:=dM.o G;have hm:=H.o.below bP.o;obtain⟨q0,q1,q2,bm,cZ,ek,jg⟩:=hm.at a0;obtain⟨⟨AZ,mY,cO⟩,K2,mr,cq⟩:=hm.ok _ (gB a0);generalize M[k]=m at q0 q1 q2 bm cZ ek jg cO cq;obtain⟨vw,d1,a1,ir,b2,aV,d2,a2,iO,cm,bb⟩:=m;dsimp only[jA] at q0 q1 q2 bm cZ ek jg cO cq;obtain⟨ai,cd⟩:=al wr.heap.size;obtain⟨ay,bA⟩:=al (wr.alloc (an #[r c vw,E (A (B d1 0)) N N,E (A (B a1 0)) N N,E ir b2 aV,E (A (B d2 0)) N N,E (A (B a2 0)) N N,E iO cm bb] 288));have aX:=dx bA;have gS:=eK bA cd;have bC:aM (∀u,ae ay u->(u.cell? (B ai 1)=A (E (A (B d1 0)) N N)/\u.cell? (B ai 4)=A (E (A (B d2 0)) N N))/\(u.cell? (B d1 U)=A (r c (AZ[U]'G))/\u.cell? (B d1 x)=A (r c (AZ[x]'G)))/\(u.cell? (B d2 U)=A (r c (K2[U]'G))/\u.cell? (B d2 x)=A (r c (K2[x]'G)))):=λu Z=>by
    have e:=gS.aq Z;have br:=cO.aq (aX.next' Z);have a4:=cq.aq (aX.next' Z);refine⟨⟨e.cell 1,e.cell 4⟩,⟨?_,?_⟩,?_,?_⟩
    ·rw[br.cell,kd _ _ _ G]
    ·rw[br.cell,kd _ _ _ G]
    ·rw[a4.cell,kd _ _ _ G]
    ·rw[a4.cell,kd _ _ _ G]
   generalize AZ[U]'G=f8 at bC;generalize AZ[x]'G=h7 at bC;generalize K2[U]'G=oq at bC;generalize K2[x]'G=uu at bC;have ft:=I (bP.o.next' aX);have dN:=db bA cd;clear mY mr bA cd
   go_upto_region 4 with fail
   rw[<-dN.o.1,<-dN.o.2];refine jQ (λD=>(D.cell? (B ai 1)=A (E (A (B d1 0)) N N)/\D.cell? (B ai 4)=A (E (A (B d2 0)) N N))/\(D.cell? (B d1 U)=A (r c f8)/\D.cell? (B d1 x)=A (r c h7))/\(D.cell? (B d2 U)=A (r c oq)/\D.cell? (B d2 x)=A (r c uu))) 26 rfl ?_;change ej _ _ _ _ _ _ _ 29 _ _ ay.drew;obtain⟨u,Z⟩:=al ay.drew;have i7:=I (show ae ay u by rw[Z];exact(bx _ _).drew);rw[<-Z];clear Z;have ax:=bC.o u i7.o;repeat first|refine fS ?_|refine ea ?_
   refine dJ 13 ?_;refine e3 279 #[r c f8,r c h7] (Tz f8 h7 u) ?_;rintro e cz ⟨rfl,a5⟩;have iG:=I (i7.o.next' a5);refine⟨_,rfl,λ_=>bC.o cz iG.o,?_⟩;generalize o0 f8 h7=mY;simp only[bN,bM,bO];refine dJ 26 ?_;refine e3 281 #[r c oq,r c uu] (ab5 oq uu cz) ?_;rintro e hI ⟨rfl,ck⟩;have dh:=I ((ft.o.next' iG.o).next' ck);refine⟨_,rfl,gj,?_⟩;generalize o0 uu oq=mr;simp only[bN,bM,bO];repeat refine ea ?_
   refine fc ?_;go_wp2_with fail;go_roundw
   ·exact⟨k+1,_,G,by go_num,rfl,dh⟩
   ·simp[cu];omega
  ·obtain rfl:k=M.length:=G;go_wp2_with fail;go_ret;exact⟨y,rfl,bP.o⟩
theorem avK (hf:jz g N) (dE:eq w af g) {v:ac} (hL:cR w v L) (aw:L.length<=12) (ar:∀x∈L,0<=x/\x<N):
 aE aa 100 #[J af 0,v] w λe D=>∃ca M,e=au ca/\l8 w.heap.size D ca M N/\M.map lk.v=L/\ae w D:=by
 obtain⟨a,R,rfl,_⟩:=id hL;have H:=ig dE hL ar;have dq:=I hf;have lu:=I (l8.nil w.heap.size w N);go_in;go_wp2_with fail;go_loopw [4,9] (λz i wr=>∃(k:Nat) (M:List lk),k<=L.length/\i=r c k/\aM (l8 w.heap.size wr z M N)/\aM (M.map lk.v=L.take k)/\aM (ae w wr)) (λ_ i _=>L.length-(cu i).toNat)
 ·exact⟨0,[],G,rfl,lu,I rfl,I (bx _ _)⟩
 ·obtain⟨k,M,K,rfl,eU,kx,bP⟩:=hrel;obtain⟨aN,dw,rfl,_⟩:=eU.o.form;have hlen:M.length=k:=by have:=congrArg pA kx.o;rwa[iT,lS,XJ K] at this
  by_cases a0:k<L.length
  ·have ie:(k:Int)<L.length:=G;have k0:=ew k;obtain⟨kC,cx,rfl,d⟩:=(H.o.2.1.a_ (bu.bg bP.o)).at k a0;have ak:=H.o.2.2 _ (gB a0);have eW:=I (show L.take (k+1)=L.take k++[L[k]] from(aiG a0).symm);generalize L[k]=x at d ak eW;have c9:=I (H.o.1.a_ (bu.bg bP.o));have GQ:=I (avI dq.o c9.o ak);have jf:=I (Ty af g N dq.o x ak wr c9.o);have fG:=I hlen;clear hlen;go_wp2_with fail;refine eO GQ.o ?_;go_wp2_with fail;refine jf.o.mono ?_;rintro e aJ ⟨lC,rfl,h1,aX⟩;obtain⟨d1,a1,ir,b2,aV,AZ,aFe,aFf,rfl,q1,q2,bm,cZ⟩:=O8 h1;have jL:=I (N' af g N dq.o x ak aJ (c9.o.a_ (bu.bg aX)));have e7:=I (show ye aJ N d1 from⟨_,q1.tg,q2⟩);have ft:=I aX;go_wp2_with fail;refine jL.o.mono ?_;rintro e ba ⟨mD,rfl,h2,a5⟩;obtain⟨d2,a2,iO,cm,bb,K2,aFg,aFh,rfl,q1,q2,bm,cZ⟩:=O8 h2;obtain⟨ai,cd⟩:=al ba.heap.size;obtain⟨bi,d6⟩:=al (ba.alloc (an #[r c x,E (A (B d1 0)) N N,E (A (B a1 0)) N N,E ir b2 aV,E (A (B d2 0)) N N,E (A (B a2 0)) N N,E iO cm bb] 288));have c_:=dx d6;have gS:=eK d6 cd;have gQ:ae wr bi:=(ft.o.next' a5).next' c_;have ml:ye bi N d1:=e7.o.dy λk cs fr aO=>(a5.next' c_).block k aO.lt;have iq:ye bi N d2:=(show ye ba N d2 from⟨_,q1.tg,q2⟩).dy λk cs fr aO=>c_.block k aO.lt;obtain⟨ca,bD,hE,I',aFi,_,cT⟩:=(eU.o.below gQ).push (M2:=[⟨x,d1,a1,ir,b2,aV,d2,a2,iO,cm,bb⟩]) (avG gS (λj u Z=>by rw[uJ,List.flatMap_nil,yn] at Z;rw[la];exact Z) (bY 1) G) (λm hm=>by rw[f2.1 hm];exact⟨ml,iq⟩) (by have:=fG.o;simp;omega) (g3 bP.o.size gQ.size);have cW:=I hE;have avL:=I I';have hd:=I (bP.o.trans ((gQ.mono bP.o.size).trans cT));have Pd:=I (show(M++[(⟨x,d1,a1,ir,b2,aV,d2,a2,iO,cm,bb⟩:lk)]).map lk.v=L.take (k+1) by rw[eW.o,qc,kx.o];rfl);rw[d6,cd] at cW;clear d6 cd;go_wp2_with(at_builtin;refine uX rfl _ _ _ _ rfl cW.o ?_)
   go_roundw
   ·exact⟨k+1,_,G,by go_num,avL,Pd,hd⟩
   ·simp[cu];omega
  ·obtain rfl:k=L.length:=G;go_wp2_with fail;go_ret;have:=kx.o;rw[v3] at this;exact⟨_,M,rfl,eU.o,this,bP.o⟩
end
def HK:Option (Int×Int)->Array ac
 |none=>#[r c 0,r c 0,aA ao]
 |some (a,b)=>#[r c a,r c b,aA ad]
def KT (e:Option (Int×Int)) (x:Int):Option (Int×Int):=match e with
 |none=>A (x,x)
 |some (a,b)=>A (min a x,max b x)
theorem aer (L:List Int) (x:Int):lP (L++[x])=KT (lP L) x:=by
 cases L with
 |nil=>rfl
 |cons y L=>simp[lP,KT,L6]
theorem aes (e:Option (Int×Int)) (x:Int) (w:O):aE aa 104 #[aZ (HK e),r c x] w λfm D=>fm=au (aZ (HK (KT e x)))/\ae w D:=by
 cases e with
 |none=>
  show aE _ _ #[aZ #[r c 0,r c 0,aA ao],_] _ _;go_in;go_wp2_with fail;exact gh (v:=aZ #[r c x,r c x,aA ad]) (by simp[gq,QR,go_sem]) rfl ⟨rfl,((fb).alloc a3 _)⟩
 |some Kk=>
  obtain⟨a,b⟩:=Kk;have H:aE aa 104 #[aZ #[r c a,r c b,aA ad],r c x] w λfm D=>∃p q,fm=au (aZ #[r c p,r c q,aA ad])/\(p=min a x/\q=max b x)/\ae w D:=by
   go_in;go_wp2_with fail
   ·exact gh (v:=aZ #[r c x,r c x,aA ad]) (by simp[gq,QR,go_sem]) rfl ⟨_,_,rfl,G,((fb).alloc a3 _)⟩
   ·exact gh (v:=aZ #[r c x,r c b,aA ad]) (by simp[gq,QR,go_sem]) rfl ⟨_,_,rfl,G,((fb).alloc a3 _)⟩
   ·exact gh (v:=aZ #[r c a,r c x,aA ad]) (by simp[gq,QR,go_sem]) rfl ⟨_,_,rfl,G,((fb).alloc a3 _)⟩
   ·exact gh (v:=aZ #[r c a,r c b,aA ad]) (by simp[gq,QR,go_sem]) rfl ⟨_,_,rfl,G,((fb).alloc a3 _)⟩
  refine H.mono ?_;rintro e D ⟨p,q,rfl,⟨rfl,rfl⟩,hb⟩;exact⟨rfl,hb⟩
def auX (w:O) (v:ac) (a b:Int) (R:ac) (many:Int):Prop:=
 ∃cO cq fT,v= .func (.func 188) #[] #[J cO 0,J cq 0,J fT 0]/\
  V w cO #[r c a,r c b,R] 171 (0,0)/\V w cq #[r c many] 3 (0,0)/\V w fT #[r c (b-a+1)] 2
theorem auY (a b:Int) (R:Bool) (many:Int) (w:O) (ar:-2147483648<=a/\a<=b/\b<=2147483647):aE aa 105 #[aZ #[r c a,r c b,aA R],r c many] w λe D=>∃v,e=au v/\auX D v a b (aA R) many/\ae w D:=by
 have g_:=@hJ aa;go_in;go_wp2_with fail;go_ret;refine⟨_,rfl,⟨_,_,_,rfl,?_,?_,?_⟩,((fb).alloc a3 _).alloc (by simp;omega) _⟩
 ·exact((V.new _ _ _ _).alloc _).alloc _
 ·have h:=(V.new (w.alloc (an #[r c a,r c b,aA R] 171)) #[r c many] 3 (0,0)).alloc (an #[r c (b-a+1)] 2)
  rwa[d8] at h
 ·have h:=V.new ((w.alloc (an #[r c a,r c b,aA R] 171)).alloc (an #[r c many] 3)) #[r c (b-a+1)] 2 (0,0)
  rwa[d8,d8] at h
structure yd (w:O) (cO cq fT:Nat) (a b:Int) (R:ac) (many:Int):Prop where
 one:V w cO #[r c a,r c b,R] 171
 two:V w cq #[r c many] 3
 three:V w fT #[r c (b-a+1)] 2
theorem yd.a_ {cO cq fT:Nat} {R:ac} {b many:Int} (h:yd w cO cq fT a b R many) (K:bu w D):yd D cO cq fT a b R many:=⟨K.aH h.one,K.aH h.two,K.aH h.three⟩
theorem yd.set {cO cq fT:Nat} {R:ac} {b many:Int} (h:yd w cO cq fT a b R many) {ai:Nat} (cd:V w ai cs t fr) (ht:t≠171/\t≠3/\t≠2) (v:ac):yd (w.setCell (B ai 0) v) cO cq fT a b R many:=
 ⟨h.one.gr _ _ (λe=>ht.1 (er (show V w cO cs t fr by rw[show cO=ai from e];exact cd) h.one)),h.two.gr _ _ (λe=>ht.2.1 (er (show V w cq cs t fr by rw[show cq=ai from e];exact cd) h.two)),h.three.gr _ _ (λe=>ht.2.2 (er (show V w fT cs t fr by rw[show fT=ai from e];exact cd) h.three))⟩
theorem aet (a b:Int) (R:Bool) (many:Int) (w:O) (ar:-2147483648<=a/\a<=b/\b<=2147483647):aE aa 105 #[aZ #[r c a,r c b,aA R],r c many] w λe D=>∃cO cq fT,e=au (.func (.func 188) #[] #[J cO 0,J cq 0,J fT 0])/\yd D cO cq fT a b (aA R) many/\ae w D:=by
 refine(auY a b R many w ar).mono ?_;rintro e D ⟨v,rfl,⟨cO,cq,fT,rfl,h1,h2,ap⟩,hb⟩;exact⟨cO,cq,fT,rfl,⟨h1,h2,ap⟩,hb⟩
theorem auZ {b many:Int} (ar:-2147483648<=a/\a<=b/\b<=2147483647) (ak:a<=x/\x<=b) (hm:1<=many/\many<=256):rl ((rl ((x-a)*many)).tdiv (b-a+1))=sG a b many x:=by
 have h0:0<=(x-a)*many:=QQ G G;have h1:(x-a)*many<=(x-a)*256:=XG hm.2 G;have br:rl ((x-a)*many)=(x-a)*many:=by unfold rl;omega
 have h2:=Pf (least:=a) (cr:=b) (many:=many) (x:=x) ⟨G,G⟩ hm.1;rw[br,Mf h0];show rl (sG a b many x)=_;unfold rl;omega
theorem aeu (a b:Int) (R:ac) (many x:Int) (w:O) (ar:-2147483648<=a/\a<=b/\b<=2147483647) (ak:a<=x/\x<=b) (hm:1<=many/\many<=256) (cO cq fT:Nat)
 (h1:V w cO #[r c a,r c b,R] 171) (h2:V w cq #[r c many] 3) (ap:V w fT #[r c (b-a+1)] 2):
 aE aa 188 #[r c x,J cO 0,J cq 0,J fT 0] w λe D=>e=au (r c (sG a b many x))/\D=w:=by
 have aV:=h1.cell 0;have bb:=h2.cell 0;have ch:=ap.cell 0;change w.cell? (B cO 0)=A (r c a) at aV;change w.cell? (B cq 0)=A (r c many) at bb;change w.cell? (B fT 0)=A (r c (b-a+1)) at ch;clear h1 h2 ap;go_in;go_wp2_with fail;rw[auZ ar ak hm];go_ret;exact⟨rfl,rfl⟩
section
attribute [local go_sem] f'
theorem Own.and' {dp OZ:FX->O->Prop} (h:Own dp) (fx:Own OZ):Own (λs W=>dp s W/\OZ s W):=λs W W' row aB hg ar=>⟨h s W W' row aB.1 hg ar,fx s W W' row aB.2 hg ar⟩
theorem aev (b:Nat) (t:cY) (fr:Nat×Nat) (cs:FX->Array ac):Own (λs W=>V W b (cs s) t fr):=λs Q ai row aB hg ar=>
 (hg.block b aB.lt (λe=>by
  obtain⟨o,aQ,ah⟩:=ar _ e.symm;rw[show Q.heap[b]? =_ from aB] at aQ;obtain rfl:=eT aQ;cases ah)).trans aB
theorem aew {cJ:O} {ai:Nat} (cd:cJ.heap.size<=ai):OwnFrom ai (λ(_:FX) W=>Kept S cJ W):=λ_ Q C row aB hg ar=>
 ⟨hg.os.trans aB.os,hg.tape.trans aB.tape,hg.output.trans aB.output,cM aB.size hg.size,λk K cb=>(hg.block k (jP K aB.size) (λe=>by have:=(ar _ e.symm).1;omega)).trans (aB.block k K cb)⟩
theorem Pi (e:Option (Int×Int)):∃a b q,HK e=#[r c a,r c b,aA q]:=by
 cases e with
 |none=>exact⟨_,_,_,rfl⟩
 |some p=>exact⟨_,_,_,rfl⟩
theorem aex (e:Option (Int×Int)):∃q,HK e=#[r c (e.getD (0,0)).1,r c (e.getD (0,0)).2,aA q]:=by
 cases e with
 |none=>exact⟨_,rfl⟩
 |some p=>exact⟨_,rfl⟩
theorem aey (h:x∈L):((lP L).getD (0,0)).1<=x/\x<=((lP L).getD (0,0)).2/\((lP L).getD (0,0)).1∈L/\((lP L).getD (0,0)).2∈L:=by
 cases L with
 |nil=>cases h
 |cons y L=>
  obtain⟨a,b,R,d⟩:=aen (L:=y::L) rfl;exact⟨(b x h).1,(b x h).2,R,d⟩
theorem au0 {ai am:Nat} (h:Kept S W W') (cb:∀k,S k->k<ai/\am<=k/\k≠fv) (dC:am<=W.heap.size) (ng:fv<W.heap.size):KeepsFrom ai W W'/\uy am fv W W':=
 ⟨⟨h.size,λk o K aQ _=>(h.block k (gU.1 aQ).1 (λe=>by have:=(cb k e).1;omega)).trans aQ⟩,h.below dC (λk e=>(cb k e).2.1),h.block fv ng (λe=>(cb fv e).2.2 rfl)⟩
theorem au1 {aI cJ:O} {bh am size:Nat} {v x:ac} {b7:List ac} {e:cY} (Z:ae aI u) (fZ:u.ownsRow cJ.heap.size e size v n b7) (hg:u.grownBy D v.ownBlock) (bl:V aI bh cs t fr)
 (dC:am<=bh) (aE9:bh<cJ.heap.size) (ng:fv<cJ.heap.size/\fv≠bh) (dQ:Kept (λk=>k=bh) cJ aI):
 KeepsFrom cJ.heap.size aI (D.setCell (B bh 0) x)/\uy am fv aI (D.setCell (B bh 0) x)/\Kept (λk=>k=bh) cJ (D.setCell (B bh 0) x):=by
 have hP:=dQ.size;have K:∀k,k<aI.heap.size->k≠bh->A k≠v.ownBlock->(D.setCell (B bh 0) x).heap[k]? =aI.heap[k]? :=λk h1 h2 ap=>(d7 _ _ _ _ h2).trans ((hg.block k (jP h1 Z.size) ap).trans (Z.block k h1));have aB:aI.heap.size<=(D.setCell (B bh 0) x).heap.size:=by have:=Z.size;have:=hg.size;simp;omega
 have aQ:∀k,k<cJ.heap.size->A k≠v.ownBlock:=λk h e=>by have:=(di fZ e.symm).1;omega
 refine⟨⟨aB,λk o cd E' Ms=>?_⟩,⟨⟨hg.os.trans Z.os,hg.tape.trans Z.tape,hg.output.trans Z.output,aB,λk eQ=>K k G G (aQ k G)⟩,K fv G ng.2 (aQ fv ng.1)⟩,⟨(hg.os.trans Z.os).trans dQ.os,(hg.tape.trans Z.tape).trans dQ.tape,(hg.output.trans Z.output).trans dQ.output,cM hP aB,λk h1 h2=>(K k G h2 (aQ k h1)).trans (dQ.block k h1 h2)⟩⟩;refine(K k (gU.1 E').1 (λe=>?_) (λe=>?_)).trans E'
 ·subst e;rw[show aI.heap[k]? =_ from bl] at E';obtain rfl:=eT E';cases Ms
 ·obtain⟨_,cur,hb⟩:=di fZ e.symm;have h2:=(Z.block k (gU.1 E').1).symm.trans (show u.heap[k]? =_ from hb);rw[h2] at E';obtain rfl:=eT E';cases Ms
def Pj (jE ib jS cA:Int) (w0 w1:Bool) (C aj:Nat):Nat->ac->Nat->Nat->O->Prop:=λi v l h w=>match i with
 |2=>∃p1 p2 e8,v= .func (.func 188) #[] #[a6 (A ⟨p1,0,T⟩),a6 (A ⟨p2,0,T⟩),a6 (A ⟨e8,0,T⟩)]/\yd w p1 p2 e8 jE ib (aA w0) C
 |5=>∃p1 p2 e8,v= .func (.func 188) #[] #[a6 (A ⟨p1,0,T⟩),a6 (A ⟨p2,0,T⟩),a6 (A ⟨e8,0,T⟩)]/\yd w p1 p2 e8 jS cA (aA w1) aj
 |_=>v=a6 (A ⟨l,0,T⟩)/\V w l #[.nilFunc] 176 (0,0)/\l<h
theorem au2 (jE ib jS cA:Int) (w0 w1:Bool) (C aj i:Nat) (v:ac) (l h:Nat) (w D:O) (ah:Pj jE ib jS cA w0 w1 C aj i v l h w) (hb:ae w D):Pj jE ib jS cA w0 w1 C aj i v l h D:=by
 unfold Pj at ah⊢;split at ah
 ·obtain⟨p1,p2,e8,e,h1⟩:=ah;exact⟨p1,p2,e8,e,h1.a_ (bu.bg hb)⟩
 ·obtain⟨p1,p2,e8,e,h1⟩:=ah;exact⟨p1,p2,e8,e,h1.a_ (bu.bg hb)⟩
 ·exact⟨ah.1,ah.2.1.aq hb,ah.2.2⟩
def cellOf (ex nD:Option (Int×Int)) (aj C:Int) (IB:Int×Int):Int:=
 sG (nD.getD (0,0)).1 (nD.getD (0,0)).2 aj IB.2*C+sG (ex.getD (0,0)).1 (ex.getD (0,0)).2 C IB.1
def HL (N:Nat) (f:Nat->Int×Int) (aj C:Nat):List Int:=
 (pC N).map λ(k:Fin N)=>cellOf (lP ((pC N).map λ(k:Fin N)=>(f k).1)) (lP ((pC N).map λ(k:Fin N)=>(f k).2)) aj C (f k)
theorem au3 (m:Nat) (hm:5<=m) (p:Option cp) (R:Nat) (ah:1<=R/\R<=256) (w:O) (N:Nat) (f:Nat->Int×Int) (dj:Ph w w.heap.size p N f) (b1:N<=1000000) (hf:∀k,k<N->(-2147483648<=(f k).1/\(f k).1<=2147483647)/\(-2147483648<=(f k).2/\(f k).2<=2147483647)):
 ge dY m aa 58 #[a6 p,r c R] w λe W'=>∃v aj C,KR R aj C/\e=au v/\W'.ownsRow w.heap.size 3 1 v (HL N f aj C).length ((HL N f aj C).flatMap ec)/\ae w W':=by
 have h1:1<=m:=G;obtain⟨eP,aE_,aE',gi,aFa⟩:=m6 wn;have dq:=I hf;refine sL func58 rfl trivial ?_ rfl;simp only[ntmps58,g0,fV,gp,gA,g1,gI,gJ,gK,gL,f1,fW];obtain⟨bh,dW⟩:=al w.heap.size;obtain⟨iV,lg⟩:=al (w.alloc (an #[E T 0 0] 41));have kO:=dx lg;have s2:=eK lg dW;have DJ:=I lg;have aez:=I dW;clear lg;gi_wp2_with(rw[<-DJ.o];refine⟨trivial,?_⟩;gi_at_call 102;refine(im.2 (auP R ah iV)).mono ?_;rintro e ay ⟨aj,C,rfl,cb,aX⟩;have cj:=I cb;have ft:=I aX;have Nd:((aj:Int)==0)=ao:=(by have:=cb.pos;simp;omega))
 obtain⟨d3,eS⟩:=al ay.heap.size;obtain⟨b_,ni⟩:=al (ay.heap.size+1);obtain⟨dc,kX⟩:=al (ay.heap.size+1+1);obtain⟨aJ,cK⟩:=al (((ay.alloc (an #[r c C] 3)).alloc (an #[r c 0,r c 0,aA ao] 171)).alloc (an #[r c 0,r c 0,aA ao] 171));have a5:=tW cK;have gt:aJ.heap.size=dc+1:=by rw[cK,kX];simp
 have vC:V aJ d3 #[r c C] 3:=by rw[cK,eS];exact((V.new _ _ _ _).alloc _).alloc _
 have Vl:V aJ b_ #[r c 0,r c 0,aA ao] 171:=by
  rw[cK,ni];have h:=(V.new (ay.alloc (an #[r c C] 3)) #[r c 0,r c 0,aA ao] 171 (0,0)).alloc (an #[r c 0,r c 0,aA ao] 171)
  rwa[d8] at h
 have KU:V aJ dc #[r c 0,r c 0,aA ao] 171:=by
  rw[cK,kX];have h:=V.new ((ay.alloc (an #[r c C] 3)).alloc (an #[r c 0,r c 0,aA ao] 171)) #[r c 0,r c 0,aA ao] 171 (0,0)
  rwa[d8,d8] at h
 have aeA:ae iV aJ:=ft.o.next' a5;have au4:=s2.aq aeA;have au5:ae w aJ:=kO.next' aeA;have fG:w.heap.size<=bh/\bh<iV.heap.size/\iV.heap.size<=d3/\d3<b_/\b_<dc:=⟨bI aez.o,s2.lt,bI ft.o.size,G,G⟩;have mc:=I cK;have au6:=I eS;have Fa:=I ni;have Pk:=I kX;clear cK;rw[<-mc.o,<-aez.o,<-Pk.o,<-Fa.o,<-au6.o];clear dW eS ni kX;refine⟨trivial,?_⟩;refine xj (aep (m-1) p aJ) λcJ tC=>?_;rw[gt];have fL:cJ.heap.size=dc+1+1:=by rw[tC];simp[gt]
 have hl:=dx tC;have au7:V cJ (dc+1) #[a6 p] 62:=by have h:=V.new aJ #[a6 p] 62 (0,0);rw[gt] at h;rw[tC];exact h
 have dC:=fG;have q8:=au4.aq hl;have HC:=vC.aq hl;have au8:=Vl.aq hl;have x':=KU.aq hl;have nP:ae w cJ:=au5.next' hl;have hst:=aeq (m-1) G (dc+1) w.heap.size w p N f dj cJ nP nP.size au7;clear tC;gi_wp2_with fail;refine Ma (F:=dY) rfl h1 (gf:=186) (lb:=#[J (dc+1) 0]) rfl trivial (fg aiR bq rfl)
  hst uy.trans (uy.put nP.size G) (bx _ _) (λ_=>rfl)
  (λpre W=>(V W b_ (HK (lP (pre.map λ(k:Fin N)=>(f k).1))) 171 (0,0)/\V W dc (HK (lP (pre.map λ(k:Fin N)=>(f k).2))) 171)/\Kept (λk=>k=b_\/k=dc) cJ W)
  (λ_ _ _=>False)
  (XU (Own.from (Own.and' (aev _ _ _ _) (aev _ _ _ _)) _) (aew (bY _)))
  (λ_ _ _ _ _ aB _ _=>aB)
  ⟨⟨au8,x'⟩,Kept.refl _ _⟩
  ?a1 ?assign ?body ?done ?stop
 case assign=>
  intro l x W aT dQ;dsimp only[KS];gi_wp2;exact dQ
 case body=>
  rintro l pre x W ⟨⟨l6,KV⟩,Fb⟩ a0;obtain⟨⟨wJ,yc⟩,qU⟩:∃q,q=f x:=⟨_,rfl⟩;have br:KT (lP (pre.map λ(k:Fin N)=>(f k).1)) wJ=lP ((pre++[x]).map λ(k:Fin N)=>(f k).1):=by rw[qc,zy,LO,<-qU,aer]
  have a4:KT (lP (pre.map λ(k:Fin N)=>(f k).2)) yc=lP ((pre++[x]).map λ(k:Fin N)=>(f k).2):=by rw[qc,zy,LO,<-qU,aer]
  have aV:=λu=>aes (lP (pre.map λ(k:Fin N)=>(f k).1)) wJ u;have bb:=λu=>aes (lP (pre.map λ(k:Fin N)=>(f k).2)) yc u;rw[br] at aV;rw[a4] at bb;obtain⟨gG,sW,q0,ha⟩:=Pi (lP (pre.map λ(k:Fin N)=>(f k).1));obtain⟨bR,d0,r0,ah⟩:=Pi (lP (pre.map λ(k:Fin N)=>(f k).2));obtain⟨dX,fT,bm,Nc⟩:=Pi (lP ((pre++[x]).map λ(k:Fin N)=>(f k).1));obtain⟨ch,qd,eC,wR⟩:=Pi (lP ((pre++[x]).map λ(k:Fin N)=>(f k).2));rw[ha] at l6 aV;rw[ah] at KV bb;rw[Nc] at aV;rw[wR] at bb;have KW:b_≠dc:=G;have fR:=ig fL dC nP.size;rw[<-qU];dsimp only;gi_wp2_with fail;have bC:aM (∀u,ae W u->(u.cell? (B b_ 0)=A (r c gG)/\u.cell? (B b_ 1)=A (r c sW)/\u.cell? (B b_ 2)=A (aA q0)/\u.cell? (B dc 0)=A (r c bR)/\u.cell? (B dc 1)=A (r c d0)/\u.cell? (B dc 2)=A (aA r0))):=λu Z=>⟨(l6.aq Z).cell 0,(l6.aq Z).cell 1,(l6.aq Z).cell 2,(KV.aq Z).cell 0,(KV.aq Z).cell 1,(KV.aq Z).cell 2⟩;refine F3 6 bC.o λdV dz ax=>?_;have jW:=I dz;repeat first|refine fS ?_|refine ea ?_
  refine dJ 2 ?_;refine e3 104 #[aZ #[r c gG,r c sW,aA q0],r c wJ] (aV dV) ?_;rintro e cz ⟨rfl,hb⟩;have iG:=I (jW.o.next' hb);refine⟨_,rfl,λ_=>bC.o cz iG.o,?_⟩;simp only[bN,bM,bO];refine dJ 5 ?_;refine e3 104 #[aZ #[r c bR,r c d0,aA r0],r c yc] (bb cz) ?_;rintro e u ⟨rfl,hb⟩;have aL:=I (iG.o.next' hb);refine⟨_,rfl,λ_=>bC.o u aL.o,?_⟩;simp only[bN,bM,bO];have k7:=l6.aq aL.o;have k8:=KV.aq aL.o;have tm:=aR k7 0;have e4:=aR k7 1;have g7:=aR k7 2;have bB:=aR k8 0;have b2:=aR k8 1;have cm:=aR k8 2;have fr:=jw k7;have Vm:=jw k8;have j5:=fr 0;have f6:=fr 1;have eF:=fr 2;have zb:=Vm 0;have g':=Vm 1;have iE:=Vm 2;have Vn:¬dc=b_:=λe=>KW e.symm;have xO:V (((u.setCell (B b_ 0) (r c dX)).setCell (B b_ 1) (r c fT)).setCell (B b_ 2) (aA bm)) b_ #[r c dX,r c fT,aA bm] 171:=((k7.set 0 _).set 1 _).set 2 _;have au9:V (((u.setCell (B b_ 0) (r c dX)).setCell (B b_ 1) (r c fT)).setCell (B b_ 2) (aA bm)) dc #[r c bR,r c d0,aA r0] 171:=((k8.gr _ _ Vn).gr _ _ Vn).gr _ _ Vn;have Nt:V ((((((u.setCell (B b_ 0) (r c dX)).setCell (B b_ 1) (r c fT)).setCell (B b_ 2) (aA bm)).setCell (B dc 0) (r c ch)).setCell (B dc 1) (r c qd)).setCell (B dc 2) (aA eC)) dc #[r c ch,r c qd,aA eC] 171:=((au9.set 0 _).set 1 _).set 2 _;have au_:V ((((((u.setCell (B b_ 0) (r c dX)).setCell (B b_ 1) (r c fT)).setCell (B b_ 2) (aA bm)).setCell (B dc 0) (r c ch)).setCell (B dc 1) (r c qd)).setCell (B dc 2) (aA eC)) b_ #[r c dX,r c fT,aA bm] 171:=((xO.gr _ _ KW).gr _ _ KW).gr _ _ KW;have zg:Kept (λk=>k=b_\/k=dc) W ((((((u.setCell (B b_ 0) (r c dX)).setCell (B b_ 1) (r c fT)).setCell (B b_ 2) (aA bm)).setCell (B dc 0) (r c ch)).setCell (B dc 1) (r c qd)).setCell (B dc 2) (aA eC)):=((((((Kept.bg aL.o).setCell (p:=B b_ 0) (Xe rfl) _).setCell (p:=B b_ 1) (Xe rfl) _).setCell (p:=B b_ 2) (Xe rfl) _).setCell (p:=B dc 0) (hD rfl) _).setCell (p:=B dc 1) (hD rfl) _).setCell (p:=B dc 2) (hD rfl) _;refine jG 6 (((u.setCell (B b_ 0) (r c dX)).setCell (B b_ 1) (r c fT)).setCell (B b_ 2) (aA bm)) ?_;refine jG 7 ((((((u.setCell (B b_ 0) (r c dX)).setCell (B b_ 1) (r c fT)).setCell (B b_ 2) (aA bm)).setCell (B dc 0) (r c ch)).setCell (B dc 1) (r c qd)).setCell (B dc 2) (aA eC)) ?_;refine fc ?_;have hP:=Fb.size;have aeB:=au0 (ai:=cJ.heap.size) (am:=w.heap.size) (fv:=dc+1) zg (λk K=>by have:=fR.o;omega) (bI fR.o) (bI fR.o);refine⟨aeB.1,aeB.2,⟨?_,?_⟩,Fb.trans zg⟩
  ·rw[Nc];exact au_
  ·rw[wR];exact Nt
 case stop=>
  rintro aF R pre W _ _ h _;exact h.elim
 case done=>
  rintro aF b7 W fh rfl ⟨⟨l6,k8⟩,Fb⟩ Fc;obtain⟨ex,hex⟩:=al (lP ((pC N).map λ(k:Fin N)=>(f k).1));obtain⟨nD,KX⟩:=al (lP ((pC N).map λ(k:Fin N)=>(f k).2));have tt:∀(k:Fin N),(-2147483648<=(ex.getD (0,0)).1/\(ex.getD (0,0)).1<=(f k).1/\(f k).1<=(ex.getD (0,0)).2/\(ex.getD (0,0)).2<=2147483647):=λk=>by
   have h:=aey (L:=(pC N).map λ(k:Fin N)=>(f k).1) (x:=(f k).1) (jB.2 ⟨k,XX k,rfl⟩);rw[<-hex] at h;obtain⟨h1,h2,ap,bl⟩:=h;obtain⟨i,_,en⟩:=jB.1 ap;obtain⟨j,_,od⟩:=jB.1 bl;have g':=(dq.o i i.2).1;have iE:=(dq.o j j.2).1;omega
  have xn:∀(k:Fin N),(-2147483648<=(nD.getD (0,0)).1/\(nD.getD (0,0)).1<=(f k).2/\(f k).2<=(nD.getD (0,0)).2/\(nD.getD (0,0)).2<=2147483647):=λk=>by
   have h:=aey (L:=(pC N).map λ(k:Fin N)=>(f k).2) (x:=(f k).2) (jB.2 ⟨k,XX k,rfl⟩);rw[<-KX] at h;obtain⟨h1,h2,ap,bl⟩:=h;obtain⟨i,_,en⟩:=jB.1 ap;obtain⟨j,_,od⟩:=jB.1 bl;have g':=(dq.o i i.2).2;have iE:=(dq.o j j.2).2;omega
  have xX:-2147483648<=(ex.getD (0,0)).1/\(ex.getD (0,0)).1<=(ex.getD (0,0)).2/\(ex.getD (0,0)).2<=2147483647:=by
   by_cases h:0<N
   ·have:=tt ⟨0,h⟩;omega
   ·obtain rfl:N=0:=G;rw[hex];simp[lP]
  have au':-2147483648<=(nD.getD (0,0)).1/\(nD.getD (0,0)).1<=(nD.getD (0,0)).2/\(nD.getD (0,0)).2<=2147483647:=by
   by_cases h:0<N
   ·have:=xn ⟨0,h⟩;omega
   ·obtain rfl:N=0:=G;rw[KX];simp[lP]
  rw[<-hex] at l6;rw[<-KX] at k8;obtain⟨w0,ava⟩:=aex ex;obtain⟨w1,avb⟩:=aex nD;rw[ava] at l6;rw[avb] at k8;have Pl:HL N f aj C=(pC N).map λ(k:Fin N)=>cellOf ex nD aj C (f k):=by unfold HL;rw[hex,KX]
  have nU:∀k:Fin N,cellOf ex nD aj C (f k)=sG (nD.getD (0,0)).1 (nD.getD (0,0)).2 aj (f k).2*C+sG (ex.getD (0,0)).1 (ex.getD (0,0)).2 C (f k).1:=λk=>rfl;generalize(ex.getD (0,0)).1=jE at*;generalize(ex.getD (0,0)).2=ib at*;generalize(nD.getD (0,0)).1=jS at*;generalize(nD.getD (0,0)).2=cA at*;have cb:=cj.o.facts;have hSp:=cj.o.pos;have avc:aj<=256/\C<=256:=by
   refine⟨cM (Nat.le_mul_of_pos_right aj G) (cM cb.1 ah.2),cM (aCi C G) (cM cb.1 ah.2)⟩
  have sw:bQ w.heap.size cJ W:=Fb.below nP.size (λk e=>by omega);have avd:ae w W:=nP.trans sw;have ave:=Fb.aH q8 G;have avf:=Fb.aH HC G;have i9:=I ave;have Fe:=I avf;have KY:=I Fc;have CQ:=I avd;have fR:=jU fL dC Fb.size fh;have KW:b_≠dc:=G;clear hex KX;gi_wp2_with fail;have bC:aM (∀u,ae W u->(u.cell? (B b_ 0)=A (r c jE)/\u.cell? (B b_ 1)=A (r c ib)/\u.cell? (B b_ 2)=A (aA w0)/\u.cell? (B dc 0)=A (r c jS)/\u.cell? (B dc 1)=A (r c cA)/\u.cell? (B dc 2)=A (aA w1)/\u.cell? (B d3 0)=A (r c C))):=λu Z=>⟨(l6.aq Z).cell 0,(l6.aq Z).cell 1,(l6.aq Z).cell 2,(k8.aq Z).cell 0,(k8.aq Z).cell 1,(k8.aq Z).cell 2,(Fe.o.aq Z).cell 0⟩;refine Mu 8 bC.o λdV dz ax=>?_;have jW:=I dz;repeat first|refine fS ?_|refine ea ?_
  refine yI [2,5,6,7] (Pj jE ib jS cA w0 w1 C aj) (eF:=2) (λj v l h w D ah hb _=>au2 _ _ _ _ _ _ _ _ _ _ _ _ _ _ ah hb) (λD bU=>bC.o _ (jW.o.next' bU)) ?_ (λdZ jZ ia u hb dK mR=>?_)
  ·intro i ag fj dZ jZ ia t u hp fP hF;simp only[gg,iS,or_false] at ag;rcases ag with rfl|rfl|rfl|rfl
   ·have lC:t[32]? =A (aZ #[r c jE,r c ib,aA w0]):=hF.base fP 32;have mD:t[33]? =A (r c C):=hF.base fP 33;refine e3 105 #[aZ #[r c jE,r c ib,aA w0],r c C] (aet jE ib w0 C u xX) ?_;rintro e ed ⟨p1,p2,e8,rfl,aO,hb⟩;exact⟨_,rfl,_,rfl,hb,p1,p2,e8,rfl,aO⟩
   ·have lC:t[35]? =A (aZ #[r c jS,r c cA,aA w1]):=hF.base fP 35;have mD:t[36]? =A (r c aj):=hF.base fP 36;refine e3 105 #[aZ #[r c jS,r c cA,aA w1],r c aj] (aet jS cA w1 aj u au') ?_;rintro e ed ⟨p1,p2,e8,rfl,aO,hb⟩;exact⟨_,rfl,_,rfl,hb,p1,p2,e8,rfl,aO⟩
   all_goals exact gD (J u.heap.size 0) (u.alloc (an #[.nilFunc] 176)) ⟨_,rfl,fb,rfl,V.new _ _ _ _,a3⟩
  obtain⟨⟨p1,p2,e8,a4,pS⟩,_⟩:=dK 2 a3;obtain⟨⟨q1,q2,bm,sb,avg⟩,_⟩:=dK 5 a3;obtain⟨⟨y9,k6,ux⟩,Ew,_⟩:=dK 6 a3;obtain⟨⟨wM,k7,Vo⟩,Ex,_⟩:=dK 7 a3;have aeC:=mR 6 a3 7 a3 bj;rw[a4,sb,y9,wM];obtain⟨jN,Ee⟩:=al (jZ 6);obtain⟨qM,HM⟩:=al (jZ 7);rw[<-Ee] at k6 ux Ew aeC⊢;rw[<-HM] at k7 Vo Ex aeC⊢;have aL:=I (jW.o.next' hb);have CF:=db k6 (cM jW.o.size Ew);have G5:=db k7 (cM jW.o.size Ex);have Vp:=I (show jN≠qM by omega);clear Ee HM;have k11:=CF.o.1;have k12:=G5.o.1;have avh:V ((u.setCell (B jN 0) (.func (.func 188) #[] #[J p1 0,J p2 0,J e8 0])).setCell (B qM 0) (.func (.func 188) #[] #[J q1 0,J q2 0,J bm 0])) jN #[.func (.func 188) #[] #[J p1 0,J p2 0,J e8 0]] 176:=(k11.set 0 _).gr _ _ Vp.o;have avi:V ((u.setCell (B jN 0) (.func (.func 188) #[] #[J p1 0,J p2 0,J e8 0])).setCell (B qM 0) (.func (.func 188) #[] #[J q1 0,J q2 0,J bm 0])) qM #[.func (.func 188) #[] #[J q1 0,J q2 0,J bm 0]] 176:=(k12.gr _ _ (λe=>Vp.o e.symm)).set 0 _;have tm:=aR k11 0;have e4:=aR k12 0;have j5:=k11.free 0 (hD (cQ _));have f6:=k12.free 0 (hD (cQ _));have b9:=Vp.o;have HF:qM≠jN:=λe=>b9 e.symm;have pK:ae W ((u.setCell (B jN 0) (.func (.func 188) #[] #[J p1 0,J p2 0,J e8 0])).setCell (B qM 0) (.func (.func 188) #[] #[J q1 0,J q2 0,J bm 0])):=(aL.o.setCell (p:=B jN 0) CF.o.2 _).setCell (p:=B qM 0) G5.o.2 _;have md:=(pS.set k11 (show 176≠171/\176≠3/\176≠2 by decide) (.func (.func 188) #[] #[J p1 0,J p2 0,J e8 0])).set (k12.gr (B jN 0) (.func (.func 188) #[] #[J p1 0,J p2 0,J e8 0]) HF) bj (.func (.func 188) #[] #[J q1 0,J q2 0,J bm 0]);have xQ:=(avg.set k11 (show 176≠171/\176≠3/\176≠2 by decide) (.func (.func 188) #[] #[J p1 0,J p2 0,J e8 0])).set (k12.gr (B jN 0) (.func (.func 188) #[] #[J p1 0,J p2 0,J e8 0]) HF) bj (.func (.func 188) #[] #[J q1 0,J q2 0,J bm 0]);have cH:=qV avh avi pK md xQ;have Zn:=db CF.o.2 G5.o.2;refine jG 8 (u.setCell (B jN 0) (.func (.func 188) #[] #[J p1 0,J p2 0,J e8 0])) ?_;refine jG 9 ((u.setCell (B jN 0) (.func (.func 188) #[] #[J p1 0,J p2 0,J e8 0])).setCell (B qM 0) (.func (.func 188) #[] #[J q1 0,J q2 0,J bm 0])) ?_;refine fc ?_;generalize(u.setCell (B jN 0) (.func (.func 188) #[] #[J p1 0,J p2 0,J e8 0])).setCell (B qM 0) (.func (.func 188) #[] #[J q1 0,J q2 0,J bm 0])=aeD at*;have k4:=i9.o.aq cH.o.2.2.1;have k6:=Fe.o.aq cH.o.2.2.1;have Fc:=(cH.o.2.2.1.block aF (gU.1 KY.o).1).trans KY.o;have avj:=CQ.o.trans (cH.o.2.2.1.mono CQ.o.size);have i9:=I k4;have Fe:=I k6;have KY:=Fc;have CQ:=I avj;refine tQ.normal ?_;gi_wp2_with fail;refine⟨trivial,?_⟩;refine xj (aep (m-1) p aeD) λoD Pm=>?_;obtain⟨mW,sj⟩:=al aeD.heap.size;rw[<-sj];have Vq:oD.heap.size=mW+1:=by rw[Pm,sj];simp
  have lL:=dx Pm;have avk:=eK Pm sj;have zn:ae w oD:=CQ.o.next' lL;have k4:=i9.o.aq lL;have k6:=Fe.o.aq lL;have k11:=cH.o.1.aq lL;have k12:=cH.o.2.1.aq lL;have md:=cH.o.2.2.2.1.a_ (bu.bg lL);have xQ:=cH.o.2.2.2.2.a_ (bu.bg lL);have Fc:=(lL.block aF (gU.1 KY).1).trans KY;have aeE:=aeq (m-1) G mW w.heap.size w p N f dj oD zn zn.size avk;have aeF:bh<mW:=bI i9.o.lt;have kY:=I (cv k4 (cv k6 (cv k11 (cv k12 (cv md (cv xQ Fc))))));have CQ:=I zn;have aeG:=ig Vq aeF zn.size;clear Pm sj;gi_wp2_with fail;refine Ma (F:=dY) rfl h1 (gf:=186) (lb:=#[J mW 0]) rfl trivial (fg aiR bq rfl)
   aeE uy.trans (uy.put zn.size G) (bx _ _) (λ_=>rfl)
   (λpre aI=>(∃v,Boxed aI bh 41 v/\aI.ownsRow oD.heap.size 3 1 v (pre.map λ(k:Fin N)=>cellOf ex nD aj C (f k)).length ((pre.map λ(k:Fin N)=>cellOf ex nD aj C (f k)).flatMap ec)/\pre.length<=N)/\Kept (λk=>k=bh) oD aI)
   (λ_ _ _=>False)
   (XU (Own.from (holdsRow_own oD.heap.size bh 41 3 1 (λpre:List (Fin N)=>(pre.map λ(k:Fin N)=>cellOf ex nD aj C (f k)).length) (λpre=>(pre.map λ(k:Fin N)=>cellOf ex nD aj C (f k)).flatMap ec) (λpre _=>pre.length<=N)) _) (aew (bY _)))
   (λ_ _ _ _ _ aB _ _=>aB)
   ⟨⟨_,k4,oG _ _ _ _,cQ _⟩,Kept.refl _ _⟩
   ?a2 ?assign2 ?body2 ?done2 ?stop2
  case assign2=>
   intro l x aI aT dQ;dsimp only[KS];gi_wp2;exact dQ
  case stop2=>
   rintro aF R pre aI _ _ h _;exact h.elim
  case body2=>
   rintro l pre x aI ⟨⟨v,aK,es,hlen⟩,ue⟩ a0;obtain⟨L,hL⟩:=al (pre.map λ(k:Fin N)=>cellOf ex nD aj C (f k));rw[<-hL] at es;have Cz:L.length<=1000000:=by rw[hL,iT];omega
   obtain⟨aN,eu,dw,rfl⟩:=es.ic;obtain⟨⟨wJ,yc⟩,qU⟩:∃q,q=f x:=⟨_,rfl⟩;have hy:=(tt x);have ei:=(xn x);rw[<-qU] at hy ei;dsimp only at hy ei;obtain⟨tD,um⟩:=al (sG jS cA aj yc);obtain⟨cF,xt⟩:=al (sG jE ib C wJ);have nz:=avc;have Pn:=cb;have r1:=Pf (least:=jS) (cr:=cA) (many:=aj) (x:=yc) ⟨G,G⟩ (bI cj.o.pos);have r2:=Pf (least:=jE) (cr:=ib) (many:=C) (x:=wJ) ⟨G,G⟩ G;rw[<-um] at r1;rw[<-xt] at r2;have KD:=auO r1 r2;have avl:0<=tD*C/\tD*C<=65536:=by
    have g':0<=tD*C:=QQ r1.1 G;have iE:(aj:Int)*C<=256:=by
     have:=Pn.1;have h:aj*C<=256:=G
     exact_mod_cast h
    omega
   have avm:rl (tD*C)=tD*C:=by unfold rl;omega
   have avn:rl (tD*C+cF)=tD*C+cF:=by
    have iE:(aj:Int)*C<=256:=by
     have:=Pn.1;have h:aj*C<=256:=G
     exact_mod_cast h
    unfold rl;omega
   have aeH:IntKind.i64.wrap (tD*C)=tD*C:=by rw[Dk];omega
   have avo:IntKind.i64.wrap (tD*C+cF)=tD*C+cF:=by
    have iE:(aj:Int)*C<=256:=by
     have:=Pn.1;have h:aj*C<=256:=G
     exact_mod_cast h
    rw[Dk];omega
   have sQ:cellOf ex nD aj C (f x)=tD*C+cF:=by rw[nU x,um,xt,<-qU]
   obtain⟨q,aO⟩:=al (tD*C);have eM:IntKind.i64.wrap (tD*C)=q:=by rw[aO];exact aeH
   rw[<-aO] at avn avo sQ;clear avm aeH;have hP:=ue.size;have Vq:=aeG.o;have kb:∀{k:Nat} {cs:Array ac} {t:cY} {fr:Nat×Nat},V oD k cs t fr->k≠bh->V aI k cs t fr:=λh b9=>ue.aH h b9;have OT:d3≠bh:=bI fR.o;have k6:=kb kY.o.2.1 OT;have aeI:jN≠bh:=λe=>absurd (er (show V oD jN _ _ _ from kY.o.2.2.1) (by rw[e];exact kY.o.1)) bj;have aeJ:qM≠bh:=λe=>absurd (er (show V oD qM _ _ _ from kY.o.2.2.2.1) (by rw[e];exact kY.o.1)) bj;have k11:=kb kY.o.2.2.1 aeI;have k12:=kb kY.o.2.2.2.1 aeJ;have md:yd aI p1 p2 e8 jE ib (aA w0) C:=⟨kb kY.o.2.2.2.2.1.one (λe=>absurd (er (show V oD p1 _ _ _ from kY.o.2.2.2.2.1.one) (by rw[e];exact kY.o.1)) bj),kb kY.o.2.2.2.2.1.two (λe=>absurd (er (show V oD p2 _ _ _ from kY.o.2.2.2.2.1.two) (by rw[e];exact kY.o.1)) bj),kb kY.o.2.2.2.2.1.three (λe=>absurd (er (show V oD e8 _ _ _ from kY.o.2.2.2.2.1.three) (by rw[e];exact kY.o.1)) bj)⟩;have xQ:yd aI q1 q2 bm jS cA (aA w1) aj:=⟨kb kY.o.2.2.2.2.2.1.one (λe=>absurd (er (show V oD q1 _ _ _ from kY.o.2.2.2.2.2.1.one) (by rw[e];exact kY.o.1)) bj),kb kY.o.2.2.2.2.2.1.two (λe=>absurd (er (show V oD q2 _ _ _ from kY.o.2.2.2.2.2.1.two) (by rw[e];exact kY.o.1)) bj),kb kY.o.2.2.2.2.2.1.three (λe=>absurd (er (show V oD bm _ _ _ from kY.o.2.2.2.2.2.1.three) (by rw[e];exact kY.o.1)) bj)⟩;have tB:aM (∀u,ae aI u->aE aa 188 #[r c yc,J q1 0,J q2 0,J bm 0] u λe D=>e=au (r c tD)/\D=u):=λu Z=>by
    have k:=xQ.a_ (bu.bg Z);rw[um];exact aeu jS cA (aA w1) aj yc u G ⟨G,G⟩ G q1 q2 bm k.one k.two k.three
   have avp:aM (∀u,ae aI u->aE aa 188 #[r c wJ,J p1 0,J p2 0,J e8 0] u λe D=>e=au (r c cF)/\D=u):=λu Z=>by
    have k:=md.a_ (bu.bg Z);rw[xt];exact aeu jE ib (aA w0) C wJ u G ⟨G,G⟩ G p1 p2 e8 k.one k.two k.three
   have s5:=I (show V aI bh #[E aN eu dw] 41 (0,0) from aK);have CR:=ig k6 k11 k12;have bC:aM (∀u,ae aI u->(u.cell? (B bh 0)=A (E aN eu dw)/\u.cell? (B qM 0)=A (.func (.func 188) #[] #[J q1 0,J q2 0,J bm 0])/\u.cell? (B d3 0)=A (r c C)/\u.cell? (B jN 0)=A (.func (.func 188) #[] #[J p1 0,J p2 0,J e8 0]))):=λu Z=>⟨(s5.o.aq Z).cell 0,(k12.aq Z).cell 0,(k6.aq Z).cell 0,(k11.aq Z).cell 0⟩;have vL:=I es;have I5:=I Cz;have BH:=I hL;have avq:=I sQ;have aeK:=I ue;have EH:=I (show pre.length+1<=N by omega);have KZ:=I (show d3<oD.heap.size/\jN<oD.heap.size/\qM<oD.heap.size/\bh<oD.heap.size from⟨kY.o.2.1.lt,kY.o.2.2.1.lt,kY.o.2.2.2.1.lt,kY.o.1.lt⟩);rw[<-qU];dsimp only;clear hy ei um xt nz Pn r1 r2 KD avl sQ aO aK es Cz hL qU hP Vq kb k6 k11 k12 OT aeI aeJ md xQ ue aeE zn k4 aeF hlen;gi_wp2_with fail;refine F3 12 bC.o λdV dz ax=>?_;have jW:=I dz;clear dz;repeat first|refine fS ?_|refine ea ?_
   refine dJ 3 ?_;refine e3 188 #[r c yc,J q1 0,J q2 0,J bm 0] (tB.o dV jW.o) ?_;rintro e cz ⟨rfl,hu⟩;subst cz;refine⟨_,rfl,λ_=>ax,?_⟩;simp only[bN,bM,bO];repeat refine ea ?_
   refine dJ 8 ?_;refine e3 188 #[r c wJ,J p1 0,J p2 0,J e8 0] (avp.o dV jW.o) ?_;rintro e cz ⟨rfl,hu⟩;subst cz;refine⟨_,rfl,λ_=>ax,?_⟩;simp only[bN,bM,bO];repeat refine ea ?_
   clear ax;obtain⟨u,Z⟩:=al (dV.alloc (an #[r c (q+cF)] 3));obtain⟨pE,oV⟩:=al dV.heap.size;have aL:=I (show ae aI u by rw[Z];exact jW.o.alloc jW.o.size _);have avr:=I (show V u pE #[r c (q+cF)] 3 (0,0) by rw[Z,oV];exact V.new _ _ _ _);refine kr 10 (E (A (B pE 0)) 1 1) u ?_ (he:=by rw[Z,oV];go_simp) (ak:=λ_=>bC.o u aL.o);clear Z oV;have K0:=o' vL.o aL.o;obtain⟨a2,cm,bb,Ff,ar,aQ,hg,gP⟩:=Je oD.heap.size (E aN eu dw) L (q+cF) u pE K0 avr.o I5.o (g3 aeK.o.size aL.o.size);have rs:∀{k:Nat} {cs:Array ac} {t:cY} {fr:Nat×Nat},V aI k cs t fr->k<oD.heap.size->V Ff k cs t fr:=λh aw=>(hg.block _ (h.aq aL.o).lt (λe=>by have:=(di K0 e.symm).1;omega)).trans (h.aq aL.o);have uf:=rs s5.o KZ.o.2.2.2;have avs:Ff.cell? (B bh 0)=A (E aN eu dw)/\Ff.cell? (B qM 0)=A (.func (.func 188) #[] #[J q1 0,J q2 0,J bm 0])/\Ff.cell? (B d3 0)=A (r c C)/\Ff.cell? (B jN 0)=A (.func (.func 188) #[] #[J p1 0,J p2 0,J e8 0]):=⟨uf.cell 0,(rs CR.o.2.2 KZ.o.2.2.1).cell 0,(rs CR.o.1 KZ.o.1).cell 0,(rs CR.o.2.1 KZ.o.2.1).cell 0⟩;have tm:=aR uf 0;have j5:=uf.free 0 (hD (cQ _));have o8:=au1 (am:=w.heap.size) (fv:=mW) (x:=E a2 cm bb) aL.o K0 hg s5.o (bI fR.o) KZ.o.2.2.2 (bI aeG.o) aeK.o;have kA:(iB a2 cm bb).oneCell'=ad:=rfl;have c_:V (Ff.setCell (B bh 0) (E a2 cm bb)) bh #[E a2 cm bb] 41:=uf.set 0 _;have wL:=zH aQ (p:=B bh 0) uf (show 41≠3 by decide) (E a2 cm bb);refine dJ 11 ?_;refine tP rfl rfl rfl (by rfl) _ _ _ _ rfl ar ?_;refine⟨λ_=>avs,?_⟩;simp only[bN,bM,bO];refine jG 12 (Ff.setCell (B bh 0) (E a2 cm bb)) ?_;refine fc ?_;refine⟨o8.1,o8.2.1,⟨_,c_,?_,?_⟩,o8.2.2⟩
   ·have e:(pre++[x]).map (λ(k:Fin N)=>cellOf ex nD aj C (f k))=L++[q+cF]:=by rw[qc,BH.o,zy,LO,avq.o]
    rw[e];exact wL
   ·rw[gW];exact EH.o
  case done2=>
   rintro uw b7 aI xy rfl ⟨⟨v,aK,es,_⟩,ue⟩ mo;rw[<-Pl] at es;obtain⟨aN,eu,dw,rfl⟩:=es.ic;have ah:=aK.cell;have hf:=aK.frozen;have AU:=(gU.1 kY.o.2.2.2.2.2.2).1;have aeL:aF≠bh:=λe=>by
    have h1:=kY.o.2.2.2.2.2.2;rw[e,show oD.heap[bh]? =_ from kY.o.1] at h1;cases h1
   have avt:uw≠bh:=λe=>by have:=kY.o.1.lt;omega
   have Fc:(aI.setCell (B bh 0) (E aN eu dw)).heap[aF]? =A (.deferred (A [])):=(d7 _ _ _ _ aeL).trans ((ue.block aF AU aeL).trans kY.o.2.2.2.2.2.2);have avu:(aI.setCell (B bh 0) (E aN eu dw)).heap[uw]? =A (.deferred (A [])):=(d7 _ _ _ _ avt).trans mo;have nA:bQ w.heap.size oD aI:=ue.below zn.size (λk e=>by have:=fR.o;omega);have pK:=(zn.trans nA).setCell (p:=B bh 0) (by have:=fR.o;show w.heap.size<=bh;omega) (E aN eu dw);have c_:V (aI.setCell (B bh 0) (E aN eu dw)) bh #[E aN eu dw] 41:=V.set (show V aI bh #[E aN eu dw] 41 (0,0) from aK) 0 _;have wL:=zH es (p:=B bh 0) (show V aI bh #[E aN eu dw] 41 (0,0) from aK) (show 41≠3 by decide) (E aN eu dw);have Bx:kq w.heap.size (aI.setCell (B bh 0) (E aN eu dw)) [{target:= .collected uw,args:=#[]},{target:= .collected aF,args:=#[]}]:=
    ⟨⟨uw,rfl,bI zn.size,avu,λdS fy e9 fm=>by
     obtain rfl:=f2.1 fy;have:aF=e9:=by simpa using fm
     omega⟩,⟨⟨aF,rfl,bI fR.o,Fc,λdS fy=>by cases fy⟩,trivial⟩⟩
   have dq:=jU pK c_ (n5 wL zn.size) Bx;gi_wp2;refine DC a3 _ _ dq.o.2.2.2 dq.o.1 λD eQ fi=>?_;have c_:=eQ.aH dq.o.2.1;have aeM:=c_.cell 0;change D.cell? (B bh 0)=A (E aN eu dw) at aeM;exact⟨E aN eu dw,by simp[gq,results58,aeM,go_sem],_,aj,C,cj.o,rfl,fB dq.o.2.2.1 (λk K=>by obtain⟨_,_,aO⟩:=di dq.o.2.2.1 K;exact(eQ.aH aO).trans aO.symm),fi⟩
end
end Go.Proofs.YtnmliebconiefaaGreatDoor
