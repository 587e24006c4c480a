/- Texts of TopTriangle's and TopMoved's walks, made small by a printer; no conditions. -/
import Derived.Test.YtnmliebconiefaaGreatDoorQ07
import Derived.Defers
open And renaming intro→cv
open Bool renaming false→ao,true→ad
open Go renaming Addr→cp,Calls→aE,CallsIn→ge,TypeId→cY,Value→ac,World→O,maxLen→ff,results→gq,undef→dr,wpAnyH→gV
open Go.Builtin renaming append_→qN
open Go.Ending renaming returned→au
open Go.Exit renaming thenS→Qv
open Go.Fence renaming wide→dY
open Go.Instr renaming findKey→FP,findNow→tL,index→uO,keyThatStays→aCm,lookup→l',mapUpdate→uN,sameNow→Is
open Go.IntKind renaming i64→c,u32→j3,u8→dA
open Go.Obj renaming cells→an
open Go.Proofs.Tryz renaming func143→aCp,func291→aCl,func311→aCk,ntmps143→aCq,prog→aa,results7→aCo
open Go.Result renaming andThen→o5
open Go.RowKit renaming Below→bQ,intOf→cu
open Go.Value renaming agg→aZ,bool→aA,int→r,nilIface→nj,pointer→a6,slice→E,tuple→b8,int→kK,oneCell'→v7,slice→iB
open List renaming finRange→pC,length→pA,range→m8,replicate→d5
open Nat renaming reduceAdd→gA,reduceSub→g1
open Option renaming none→T,some→A
open Prod renaming snd→Dr
namespace Go.Proofs.YtnmliebconiefaaGreatDoor
open Go.RowKit Go.Shelf Go.Proofs.Tryz
set_option linter.all false
set_option maxRecDepth 100000
set_option maxHeartbeats 32000000
def aiT:=@Array.mem_of_getElem?
def aCn:=@Int.toNat_of_nonneg
def aiS:=@Go.Proofs.Tryz.underlying282
variable {cs:Array ac} {b3 bJ:Bool} {x:Int} {aj:Int → List Int} {f:Int → Option ac} {C L aS b4 pre:List Int} {M:List lk} {N P U ab af am bB bE bF bk bv bz c2 dD eX gZ gs k l n p s t:Nat} {fr:Nat × Nat} {S be:Nat → Prop} {D Q W ai cJ w:O} {a1 a2 cx dX gG:Option cp} {g:Raw} {v:ac}
section
open Go.RowKit Go.ChangeMaps Go.WideMaps Go.WideElems Go.MapKept
theorem avX {k:Int} {b:Bool} (h:Is (.int c) (r c k) v=A b):∃m,v=r c m/\b=(k==m):=by
 cases v<;>simp[Is] at h;rename_i j m;obtain⟨rfl,rfl⟩:=h;exact⟨m,rfl,rfl⟩
theorem ae4 (k:Int) (v:ac):∀(eJ:List MapEntry) (eP i:Nat) (y:ac),tL (.int c) (r c k) eJ eP=A (A (i,y))->
 eP<=i/\(∃b,eJ[i-eP]? =A ⟨r c k,y,b⟩)/\∀x U,tL (.int c) (r c x) eJ eP=A U->
  ∃oc,tL (.int c) (r c x) (eJ.modify (i-eP) λe=>{e with key:=r c k,val:=v}) eP=A oc/\oc.map Dr=if x=k then A v else U.map Dr
 |[],eP,i,y,h=>by simp[tL] at h
 |e::eJ,eP,i,y,h=>by
  unfold tL at h;cases aB:Is (.int c) (r c k) e.key with
  |none=>rw[aB] at h;cases h
  |some b=>
   obtain⟨m,hm,hb⟩:=avX aB;rw[aB] at h;obtain⟨S9,kM,sn⟩:=e;obtain rfl:S9=r c m:=hm;cases b with
   |true=>
    obtain rfl:k=m:=by simpa using hb.symm
    obtain⟨rfl,rfl⟩:eP=i/\kM=y:=by simpa using h
    refine⟨bY _,⟨sn,a3⟩,λx U ar=>?_⟩;rw[Dm];simp only[tL,Is,if_true,List.modify_zero_cons] at ar⊢;by_cases q:x=k
    ·subst q;exact⟨A (eP,v),a3,a3⟩
    ·have q2:(x==k)=ao:=beq_eq_false_iff_ne.2 q;rw[q2] at ar⊢;exact⟨U,ar,by rw[if_neg q]⟩
   |false=>
    have avY:k≠m:=λe=>by rw[e] at hb;simp at hb
    obtain⟨h1,⟨b,h2⟩,ap⟩:=ae4 k v eJ (eP+1) i y h;have br:i-eP=(i-(eP+1))+1:=G;refine⟨G,⟨b,by rw[br,pz];exact h2⟩,λx U ar=>?_⟩;rw[br,List.modify_succ_cons];simp only[tL,Is,if_true] at ar⊢;by_cases q:x=m
    ·subst q;simp only[beq_self_eq_true] at ar⊢;exact⟨_,rfl,by rw[if_neg (h8 avY)];exact congrArg _ (eT ar)⟩
    ·have q2:(x==m)=ao:=beq_eq_false_iff_ne.2 q;rw[q2] at ar⊢;exact ap x U ar
theorem nT.put {mt e:cY} (b3:prog.underlying mt=A (.map 3 e)) (h:nT w ab f) {k:Int} (ar:-9223372036854775808<=k/\k<=9223372036854775807) (v:ac):
 ∃D,(uN mt (.map (A ab)) (r c k) v).run aa w= .ok () D/\nT D ab (λx=>if x=k then A v else f x)/\Kept (·=ab) w D:=by
 cases K:f k with
 |none=>exact h.insert b3 K ar v
 |some y=>
  obtain⟨eJ,R,h1,h2⟩:=h;have a0:=(gU.1 h1).1;obtain⟨U,ml,iq⟩:=h2 k;rw[K] at iq;obtain⟨⟨i,y⟩,rfl,rfl⟩:∃x,U=A x/\x.2=y:=by
   cases U with
   |none=>cases iq
   |some x=>exact⟨x,rfl,eT iq⟩
  obtain⟨_,⟨b,ap⟩,bl⟩:=ae4 k v eJ.toList 0 i y ml;rw[Nat.sub_zero] at ap bl;have qZ:=n'.check w ao (z' ar);have yB:(FP 3 (r c k) eJ.toList).run aa w= .ok (A (i,y)) w:=by
   simp[FP,v4 qP,ml,o5]
  have Mx:eJ[i]? =A ⟨r c k,y,b⟩:=by rw[<-aiw];exact ap
  have hst:∀u,(aCm (r c k) (r c k)).run aa u= .ok (r c k) u:=λu=>by
   simp[aCm,Instr.sameBits]
  refine⟨setBlock w ab (.map (eJ.modify i λe=>{e with key:=r c k,val:=v}) R),?_,⟨eJ.modify i λe=>{e with key:=r c k,val:=v},R,by simp[setBlock,a0],λx=>?_⟩,rfl,rfl,rfl,by simp[setBlock],λj av aB=>?_⟩
  ·simp[uN,v4 b3,Bb h1,qZ,yB,Mx,hst,FO _ h1,o5,setBlock]
  ·obtain⟨q,q1,q2⟩:=h2 x;obtain⟨oc,p1,p2⟩:=bl x q q1;exact⟨oc,by rw[QD];exact p1,by rw[p2,q2]⟩
  ·simp[setBlock,show ab≠j fromλe=>aB e.symm]
theorem nT.ae5 {mt e:cY} (b3:prog.underlying mt=A (.map 3 e)) {z:ac} (b5:∀u,(zeroValue e).run aa u= .ok z u) (h:nT w ab f) {k:Int} (ar:-9223372036854775808<=k/\k<=9223372036854775807):
 (l' mt (.map (A ab)) (r c k) ao).run aa w= .ok ((f k).getD z) w:=by
 cases K:f k with
 |some y=>exact h.look b3 K ar
 |none=>
  obtain⟨eJ,R,h1,h2⟩:=h;obtain⟨U,ml,iq⟩:=h2 k;rw[K] at iq;obtain rfl:U=T:=by cases U<;>simp_all
  have qZ:=n'.check w eJ.isEmpty (z' ar);have yB:(FP 3 (r c k) eJ.toList).run aa w= .ok T w:=by
   simp[FP,v4 qP,ml,o5]
  simp[l',v4 b3,Bb h1,qZ,yB,b5,o5]
end
theorem HU (R:Int) (w:O):aE aa 147 #[aA ad,r c R] w λe D=>e=au (b8 #[])/\ae w D:=by
 go_in;go_wp2_with fail;go_end0;exact⟨rfl,bx _ _⟩
theorem axf (R:Int) (w:O):aE aa 147 #[aA ao,r c R] w λe D=>e= .panicked [{v:= .iface 228 (aZ #[r c R]),recovered:=ao}]/\D=w:=by
 go_in;go_wp2_with fail;exact⟨rfl,rfl,rfl⟩
theorem af7 (b1:(N:Int)=g.nodes) (hb:V w bk #[J af 0] 62) (dE:eq w af g) (x:Int) (ak:0<=x/\x<N):aE aa 234 #[r c x,J bk 0] w λe D=>e=au (aA ad)/\D=w:=by
 have gn:=I (l3 af g w dE);have bR:=aR hb 0;obtain⟨h0,h1⟩:=ak;rw[b1] at h1;go_in;go_wp2_with fail;refine eO gn.o ?_;go_wp2_with fail;go_ret;exact⟨rfl,rfl⟩
theorem axg (hb:V w bk #[J af 0] 62):aE aa 235 #[J bk 0] w λe D=>e=au (b8 #[])/\ae w D:=by
 have bR:=aR hb 0;go_in;go_wp2_with fail;refine dl (HU 1 _) λeM h=>?_;have bP:=I h;go_wp2_with fail;go_end0;exact⟨rfl,bP.o⟩
theorem axh {Q:Nat} (b1:(N:Int)=g.nodes) (hb:V w bk #[J af 0] 62) (dE:eq w af g) {dF cr:Int} (aO:V w bF #[r c dF,r c s,r c t,r c cr] 50) (ha:V w Q #[.func (.func 234) #[] #[J bk 0]] 90) (ak:s<N):
 aE aa 236 #[J Q 0,J bF 0] w λe D=>e=au (b8 #[])/\ae w D:=by
 have bZ:=I (af7 b1 hb dE s ⟨G,G⟩);have bR:=aR ha 0;have aV:=aR aO 1;go_in;go_wp2_with fail;refine eO bZ.o ?_;go_wp2_with fail;refine dl (HU 17 _) λeM h=>?_;have bP:=I h;go_wp2_with fail;go_end0;exact⟨rfl,bP.o⟩
theorem axi {Q:Nat} (b1:(N:Int)=g.nodes) (hb:V w bk #[J af 0] 62) (dE:eq w af g) {dF cr:Int} (aO:V w bF #[r c dF,r c s,r c t,r c cr] 50) (ha:V w Q #[.func (.func 234) #[] #[J bk 0]] 90) (ak:t<N):
 aE aa 237 #[J Q 0,J bF 0] w λe D=>e=au (b8 #[])/\ae w D:=by
 have bZ:=I (af7 b1 hb dE t ⟨G,G⟩);have bR:=aR ha 0;have aV:=aR aO 2;go_in;go_wp2_with fail;refine eO bZ.o ?_;go_wp2_with fail;refine dl (HU 18 _) λeM h=>?_;have bP:=I h;go_wp2_with fail;go_end0;exact⟨rfl,bP.o⟩
theorem axj {bh:Nat} {b0:List Int} (hb:V w bk #[J af 0] 62) (bl:V w bh #[J bE 0] 65) (dE:eq w af g) (h:jq w bE g N b0) (hm:1<=b0.length):
 aE aa 238 #[J bh 0,J bk 0] w λe D=>e=au (b8 #[])/\ae w D:=by
 have gn:aM (∀u,ae w u->aE aa 27 #[J af 0] u λe D=>e=au (r c N)/\ae u D):=λu Z=>by rw[h.nodes];exact(l3 af g u (dE.a_ (bu.bg Z))).mono (by rintro e D ⟨h1,h2⟩;subst h2;exact⟨h1,bx _ _⟩)
 have AK:aM (∀u,ae w u->aE aa 68 #[J bE 0] u λe D=>e=au (r c N)/\ae u D):=λu Z=>(En (h.a_ (bu.bg Z))).mono (by rintro e D ⟨h1,h2⟩;subst h2;exact⟨h1,bx _ _⟩);have cj:aM (∀u,ae w u->u.cell? (B bh 0)=A (J bE 0)/\u.cell? (B bk 0)=A (J af 0)):=λu Z=>⟨(bl.aq Z).cell 0,(hb.aq Z).cell 0⟩;have d':=I (bx w.heap.size w);have ua:b0.length<=16:=h.len;have yC:aM (∀u,ae w u->jq u bE g N b0):=λu Z=>h.a_ (bu.bg Z);obtain⟨n,aC⟩:=al b0.length;have eU:aM (∀u,ae w u->aE aa 69 #[J bE 0] u λe D=>∃a R,e=au (E a n R)/\D.ownsRow u.heap.size 3 1 (E a n R) n (b0.flatMap ec)/\ae u D):=λu Z=>by rw[aC];exact Eo (yC.o u Z)
 rw[<-aC] at hm ua;have lu:(0:Int)<n:=G;have Zq:0<n:=hm;clear aC;go_in;go_wp2_with fail;refine jj (S:=λD=>D.cell? (B bh 0)=A (J bE 0)/\D.cell? (B bk 0)=A (J af 0)) rfl ?_;have ax:=cj.o w.drew (d'.o.drew);change gV _ _ _ _ _ 12 _ _ w.drew;have bf:=I (d'.o.drew);repeat refine fA ?_
 refine fs 1 ?_;refine gE 69 (eU.o w.drew bf.o) ?_ (aP:=by rintro _ _ ⟨_,_,h,_⟩;cases h) (aQ:=by rintro _ ⟨_,_,h,_⟩;cases h);rintro e kw ⟨np,gl,⟨rfl⟩,_,hb⟩;have ef:=I (bf.o.trans (hb.mono bf.o.size))
 replace bf:=ef
 have ax:=cj.o kw bf.o;refine⟨ax,?_⟩;simp only[bN,bM,bO];repeat refine fA ?_
 refine fs 6 ?_;refine gE 68 (AK.o kw bf.o) ?_;rintro e u8 ⟨⟨rfl⟩,hb⟩;have ef:=I (bf.o.trans (hb.mono bf.o.size))
 replace bf:=ef
 have ax:=cj.o u8 bf.o;refine⟨ax,?_⟩;simp only[bN,bM,bO];refine fs 8 ?_;refine gE 27 (gn.o u8 bf.o) ?_;rintro e oh ⟨⟨rfl⟩,hb⟩;have ef:=I (bf.o.trans (hb.mono bf.o.size))
 replace bf:=ef
 have ax:=cj.o oh bf.o;refine⟨ax,?_⟩;simp only[bN,bM,bO];repeat refine fA ?_
 refine fs 11 ?_;refine gE 147 (HU 19 oh) ?_;rintro e wb ⟨⟨rfl⟩,hb⟩;have ef:=I (bf.o.trans (hb.mono bf.o.size))
 replace bf:=ef
 have ax:=cj.o wb bf.o;refine⟨ax,?_⟩;simp only[bN,bM,bO];refine i4 ?_;go_wp2_with fail;go_end0;exact⟨rfl,bf.o⟩
theorem axk (a b R d:ac) (u:O):(uO 332 (aZ #[a,b,R,d]) (r c 0)).run aa u= .ok a u:=bq
theorem axl (a b R d:ac) (u:O):(uO 332 (aZ #[a,b,R,d]) (r c 1)).run aa u= .ok b u:=bq
theorem axm (a b R d:ac) (u:O):(uO 332 (aZ #[a,b,R,d]) (r c 2)).run aa u= .ok R u:=bq
theorem axn (a b R d:ac) (u:O):(uO 332 (aZ #[a,b,R,d]) (r c 3)).run aa u= .ok d u:=bq
theorem axo {b0:List Int} (dE:eq w af g) (h:jq w bE g N b0) (hm:1<=b0.length) (aB:s<N) (ht:t<N) (dF cr:Int):
 aE aa 144 #[J af 0,J bE 0,aZ #[r c dF,r c s,r c t,r c cr]] w λe D=>e=au (b8 #[])/\ae w D:=by
 obtain⟨bk,el⟩:=al w.heap.size;obtain⟨bh,dW⟩:=al (bk+1);obtain⟨bF,eV⟩:=al (bh+1);obtain⟨Q,hA⟩:=al (bF+1);obtain⟨ba,cg⟩:=al (((w.alloc (an #[J af 0] 62)).alloc (an #[J bE 0] 65)).alloc (an #[r c dF,r c s,r c t,r c cr] 50));have ck:=tW cg;have hP:ba.heap.size=Q:=by rw[cg,hA,eV,dW,el];simp
 have k3:V ba bk #[J af 0] 62:=by rw[cg,el];exact((V.new _ _ _ _).alloc _).alloc _
 have k4:V ba bh #[J bE 0] 65:=by
  have k:=V.new (w.alloc (an #[J af 0] 62)) #[J bE 0] 65 (0,0);rw[d8] at k;rw[cg,dW,el];exact k.alloc _
 have k5:V ba bF #[r c dF,r c s,r c t,r c cr] 50:=by
  have k:=V.new ((w.alloc (an #[J af 0] 62)).alloc (an #[J bE 0] 65)) #[r c dF,r c s,r c t,r c cr] 50 (0,0);rw[d8,d8] at k;rw[cg,eV,dW,el];exact k
 obtain⟨bi,d6⟩:=al (ba.alloc (an #[.func (.func 234) #[] #[J bk 0]] 90));have C1:V bi Q #[.func (.func 234) #[] #[J bk 0]] 90:=by rw[d6,<-hP];exact V.new _ _ _ _
 have c_:=dx d6;have b1:=h.nodes;have hl:=ck.next' c_;have pg:=k3.aq c_;have q8:=k4.aq c_;have Fq:=k5.aq c_;have bB:=dE.a_ (bu.bg hl);have xd:=h.a_ (bu.bg hl);have tb:aM (∀u,ae bi u->aE aa 235 #[J bk 0] u λe D=>e=au (b8 #[])/\ae u D):=λu Z=>axg (pg.aq Z);have V7:aM (∀u,ae bi u->aE aa 236 #[J Q 0,J bF 0] u λe D=>e=au (b8 #[])/\ae u D):=λu Z=>axh b1 (pg.aq Z) (bB.a_ (bu.bg Z)) (Fq.aq Z) (C1.aq Z) aB;have vO:aM (∀u,ae bi u->aE aa 237 #[J Q 0,J bF 0] u λe D=>e=au (b8 #[])/\ae u D):=λu Z=>axi b1 (pg.aq Z) (bB.a_ (bu.bg Z)) (Fq.aq Z) (C1.aq Z) ht;have oB:aM (∀u,ae bi u->aE aa 238 #[J bh 0,J bk 0] u λe D=>e=au (b8 #[])/\ae u D):=λu Z=>axj (pg.aq Z) (q8.aq Z) (bB.a_ (bu.bg Z)) (xd.a_ (bu.bg Z)) hm;have qE:=I hl;have g6:=I (bx bi.heap.size bi);have h4:=I cg;have mM:=I d6;clear cg d6;have g_:=@hJ aa;go_in;go_wp2_with fail;rw[<-el,<-dW,<-eV,<-hA,<-h4.o,<-mM.o];clear el dW eV hA;go_loopw [15] (λi wr=>∃k:Nat,k<=4/\i=r c k/\aM (ae bi wr)) (λi _=>4-(cu i).toNat)
 ·exact⟨0,G,rfl,g6⟩
 ·obtain⟨k,K,rfl,bP⟩:=hrel;obtain rfl|rfl|rfl|rfl|rfl:k=0\/k=1\/k=2\/k=3\/k=4:=G
  ·have kl:=I (tb.o wr bP.o);have nY:=λa b R d u=>axk a b R d u;go_wp2_with fail;refine dl kl.o λay hb=>?_;have c9:=I (bP.o.next' hb);go_wp2_with fail;go_roundw
   ·exact⟨1,G,rfl,c9⟩
   ·simp[cu]
  ·have kl:=I (V7.o wr bP.o);have nY:=λa b R d u=>axl a b R d u;go_wp2_with fail;refine dl kl.o λay hb=>?_;have c9:=I (bP.o.next' hb);go_wp2_with fail;go_roundw
   ·exact⟨2,G,rfl,c9⟩
   ·simp[cu]
  ·have kl:=I (vO.o wr bP.o);have nY:=λa b R d u=>axm a b R d u;go_wp2_with fail;refine dl kl.o λay hb=>?_;have c9:=I (bP.o.next' hb);go_wp2_with fail;go_roundw
   ·exact⟨3,G,rfl,c9⟩
   ·simp[cu]
  ·have kl:=I (oB.o wr bP.o);have nY:=λa b R d u=>axn a b R d u;go_wp2_with fail;refine dl kl.o λay hb=>?_;have c9:=I (bP.o.next' hb);go_wp2_with fail;go_roundw
   ·exact⟨4,G,rfl,c9⟩
   ·simp[cu]
  ·go_wp2_with fail;go_end0;exact⟨rfl,qE.o.next' bP.o⟩
theorem axp (cl:Int) (cV:Option cp) (iY cF:Nat) (a8:Option cp) (bt bp:Nat) (w:O):aE aa 145 #[aZ #[r c cl,E cV iY cF,E a8 bt bp],r c 0] w λe D=>e=au (aZ #[r c cl,E cV iY cF,E a8 bt bp])/\ae w D:=by
 obtain⟨a',eB⟩:=al w.heap.size;obtain⟨bh,dW⟩:=al (a'+1);obtain⟨aJ,cK⟩:=al ((w.alloc (an #[r c cl,E cV iY cF,E a8 bt bp] 202)).alloc (an #[r c 0,E T 0 0,E T 0 0] 202));have a5:=oQ cK;have k2:V aJ a' #[r c cl,E cV iY cF,E a8 bt bp] 202:=by rw[cK,eB];exact(V.new _ _ _ _).alloc _
 have k4:V aJ bh #[r c 0,E T 0 0,E T 0 0] 202:=by
  have k:=V.new (w.alloc (an #[r c cl,E cV iY cF,E a8 bt bp] 202)) #[r c 0,E T 0 0,E T 0 0] 202 (0,0);rw[d8] at k;rw[cK,dW,eB];exact k
 have cw:=db k2 k4;have dT:=db a5 (show w.heap.size<=bh by omega);have mc:=I cK;clear cK;go_in;go_wp2_with fail;rw[<-eB,<-dW,<-mc.o];clear eB dW;refine dl (HU 0 _) λbD hb=>?_;have k2:=cw.o.1.aq hb;have k4:=cw.o.2.aq hb;have bR:=aR k2 0;have aV:=aR k2 1;have bb:=aR k2 2;have fU:=aR k4 0;have fO:=aR k4 1;have fD:=aR k4 2;have gx:=jw k4;have j5:=gx 0;have f6:=gx 1;have eF:=gx 2;have s2:=I (((k4.set 0 (r c cl)).set 1 (E cV iY cF)).set 2 (E a8 bt bp));have hd:=I (((((dT.o.1.next' hb)).setCell (p:=B bh 0) dT.o.2 (r c cl)).setCell (p:=B bh 1) dT.o.2 (E cV iY cF)).setCell (p:=B bh 2) dT.o.2 (E a8 bt bp));go_wp2_with fail;have e0:=s2.o.cell 0;have br:=s2.o.cell 1;have a4:=s2.o.cell 2;refine gh (v:=aZ #[r c cl,E cV iY cF,E a8 bt bp]) (by simp at e0 br a4;simp[gq,results145,go_sem,e0,br,a4]) rfl ?_;exact⟨rfl,hd.o⟩
theorem axq (p:cp) (w:O):CallsD aa 143 #[a6 (A p)] .returning w λe ed D=>e=au (b8 #[])/\ed= .returning/\D=w:=by
 refine L2 aCp rfl λyD cs Z=>?_;simp only[aCq,g0,fV,gp,gA,g1,gI,gJ,gK,gL,f1,fW];apply Qr;apply Qs;simp[wpOpsS,go_sem,recoverD,Z,Qv];refine L3 ?_;go_wp2_with fail;exact⟨rfl,.returning,by cases yD;simp_all,b8 #[],mQ rfl _ _ _,rfl,rfl,rfl⟩
theorem axr (b:Nat) (R c0 cI:Int) (dB hX:ac) (af8:List PanicEntry) (w:O) (K:V w b #[r c c0,r c cI,dB,hX] 45):
 CallsD aa 143 #[J b 0] (.panicking ({v:=(.iface 228 (aZ #[r c R])),recovered:=ao}::af8)) w λe ed D=>
  e=au (b8 #[])/\ed= .panicking ({v:=(.iface 228 (aZ #[r c R])),recovered:=ad}::af8)/\bQ b w D/\V D b #[r c R,r c 0,E T 0 0,E T 0 0] 45:=by
 have aj9:∀u:O,(Instr.typeAssert (.iface 228 (aZ #[r c R])) 20 228 ad).run aa u= .ok (b8 #[aZ #[r c R],aA ad]) u:=λu=>by kernel_rfl
 have gc:=aR K 0;have f8:=aR K 1;have h7:=aR K 2;have oq:=aR K 3;have h':=jw K;have zb:=h' 0;have g':=h' 1;have iE:=h' 2;have jx:=h' 3;have b9:=K.lt;have cw:=I (((((K.set 0 (r c R)).set 1 (r c 0)).set 2 (E T 0 0)).set 3 (E T 0 0)).alloc (an #[r c R] 228));have bP:=I ((((((bx b w).setCell (p:=B b 0) (bY _) (r c R)).setCell (p:=B b 1) (bY _) (r c 0)).setCell (p:=B b 2) (bY _) (E T 0 0)).setCell (p:=B b 3) (bY _) (E T 0 0)).alloc (by simp;omega) (an #[r c R] 228));clear h' K;refine L2 aCp rfl λyD cs Z=>?_;simp only[aCq,g0,fV,gp,gA,g1,gI,gJ,gK,gL,f1,fW];apply Qr;apply Qs;simp[wpOpsS,go_sem,recoverD,Z,Qv];refine L3 ?_;go_wp2_with fail;refine⟨rfl,_,rfl,b8 #[],mQ rfl _ _ _,rfl,rfl,bP.o,cw.o⟩
section
attribute [local go_sem] f'
structure fI (bB:Nat) (be S:Nat->Prop) (Q ai:O):Prop where
 os:ai.os=Q.os
 tape:ai.tape=Q.tape
 output:ai.output=Q.output
 size:Q.heap.size<=ai.heap.size
 cells:∀k cs t fr,V Q k cs t fr->¬S k->(bB<=k->t≠3)->ai.heap[k]? =Q.heap[k]?
 oth:∀(k:Nat) (o:Obj),Q.heap[k]? =A o->o.isCells=ao->be k->ai.heap[k]? =A o
theorem fI.trans {C:O} (h:fI bB be S Q ai) (k:fI bB be S ai C):fI bB be S Q C:=
 ⟨k.os.trans h.os,k.tape.trans h.tape,k.output.trans h.output,cM h.size k.size,λj cs t fr hb aB ht=>by
  have e:=h.cells j cs t fr hb aB ht;exact(k.cells j cs t fr (e.trans hb) aB ht).trans e,λj o aQ ah av=>k.oth j o (h.oth j o aQ ah av) ah av⟩
theorem fI.bg (h:ae Q ai):fI bB be S Q ai:=
 ⟨h.os,h.tape,h.output,h.size,λj _ _ _ hb _ _=>h.block j hb.lt,λj _ aQ _ _=>(h.block j (gU.1 aQ).1).trans aQ⟩
theorem fI.refl (bB:Nat) (be S:Nat->Prop) (Q:O):fI bB be S Q Q:=fI.bg (bx _ _)
theorem fI.aH (h:fI bB be S Q ai) {t:cY} (hb:V Q k cs t fr) (aB:¬S k) (ht:bB<=k->t≠3):V ai k cs t fr:=(h.cells k cs t fr hb aB ht).trans hb
theorem fI.put {o dt:Obj} (aw:¬be l) (aQ:W.heap[l]? =A o) (ah:o.isCells=ao):fI bB be S W (W.putObj l dt):=
 ⟨rfl,rfl,rfl,a3,λ_ _ _ _ K _ _=>rJ aQ ah K,λk _ K _ av=>(jr (λe=>aw (by rw[<-e];exact av))).trans K⟩
def p_ (L:List Int) (k:Nat):List (Int×Int):=(m8 k).map λj=>(((L.length-1-j:Nat):Int),(L[L.length-1-j]?).getD 0)
theorem ae2 (L:List Int) (k:Nat):p_ L (k+1)=p_ L k++[(((L.length-1-k:Nat):Int),(L[L.length-1-k]?).getD 0)]:=by unfold p_;rw[Io,qc];rfl
theorem ae3 (L:List Int) (k:Nat):(p_ L k).length=k:=by unfold p_;rw[iT,tK]
theorem avM (L:List Int) (K:k<=n):p_ L k<+:p_ L n:=by
 induction n with
 |zero=>
  obtain rfl:k=0:=G;exact L_
 |succ n d4=>
  by_cases e:k=n+1
  ·rw[e];exact L_
  ·rw[ae2];exact(d4 G).trans (LU _ _)
theorem avN {p:Int×Int} (h:p∈p_ L L.length):p.2∈L:=by
 unfold p_ at h;obtain⟨j,av,rfl⟩:=jB.1 h;have av:=tI.1 av;dsimp only;rw[eA (show L.length-1-j<L.length by omega)];exact gB _
def Ps (p:Int×Int):Array ac:=#[r c p.1,r c p.2]
theorem avO (cP:Option cp) (n cC:Nat) (w:O):aE aa 292 #[E cP n cC] w λe D=>e=au (.func (.func 311) #[] #[J w.heap.size 0])/\D=w.alloc (an #[E cP n cC] 41):=by
 have g_:=@hJ aa;go_in;go_wp2_with fail;go_ret;exact⟨rfl,rfl⟩
theorem avP (cP:Option cp) (n cC:Nat) (w:O):aE aa 255 #[E cP n cC] w λe D=>e=au (.func (.func 291) #[] #[J w.heap.size 0])/\D=w.alloc (an #[E cP n cC] 41):=by
 have g_:=@hJ aa;go_in;go_wp2_with fail;go_ret;exact⟨rfl,rfl⟩
theorem avQ (m:Nat) (hm:1<=m) (gd hG bB:Nat) (be S:Nat->Prop) (cJ:O) (cP:Option cp) (cC:Nat) (L:List Int) (aw:L.length<=1000) (hy:∀u,fI bB be S cJ u->cR u (E cP L.length cC) L) (bG:List (Int×Int)->O->Prop)
 (ei:∀pre x W,bG pre W->pre++[x]<+:p_ L L.length->YieldAt dY (m-1) aa gd (Ps x) W λe W'=>e=au (aA ad)/\bG (pre++[x]) W'/\fI bB be S W W')
 (W:O) (hW:fI bB be S cJ W) (cd:V W hG #[E cP L.length cC] 41) (cb:¬S hG) (h0:bG [] W):
 ge dY m aa 311 #[.func (.yield gd) #[] #[],J hG 0] W λe W'=>(∃v,e=au v)/\bG (p_ L L.length) W':=by
 have aV:W.cell? (B hG 0)=A (E cP L.length cC):=cd.cell 0;have e7:=I hy;have dN:=I hW;have bP:=I cd;have hM:=I h0;have cj:=I cb;clear hy hW cd h0 cb;refine kL aCk rfl trivial ?_ rfl;simp only[ntmps311,g0,fV,gp,gA,g1,gI,gJ,gK,gL,f1,fW];gi_wp2_with fail;clear aV;gi_loopw [3] (λi wr=>∃(k:Nat),k<=L.length/\i=r c ((L.length:Int)-1-k)/\aM (fI bB be S cJ wr)/\aM (V wr hG #[E cP L.length cC] 41)/\aM (bG (p_ L k) wr)) (λi _=>(cu i+1).toNat)
 ·exact⟨0,cQ _,by go_num,dN,bP,hM⟩
 ·obtain⟨k,K,rfl,hk,rb,ky⟩:=hrel;by_cases a0:k<L.length
  ·obtain⟨j,av⟩:∃j:Nat,j=L.length-1-k:=⟨_,rfl⟩;have kD:(L.length:Int)-1-(k:Int)=j:=G;rw[kD];have pH:j<L.length:=G;have aoI:(j:Int)<L.length:=G;have ku:=ew j;obtain⟨kC,cx,rfl,d⟩:=(e7.o wr hk.o).at j pH;have fY:=ae2 L k;rw[<-av,eA pH] at fY;obtain⟨x,ak⟩:=al (L[j]);rw[<-ak] at d fY;have lT:p_ L k++[((j:Int),x)]<+:p_ L L.length:=by
    have:=avM L (show k+1<=L.length from a0)
    rwa[fY] at this
   obtain⟨fn,tmps,assign,body,az,cf⟩:=ei (p_ L k) ((j:Int),x) wr ky.o lT;dsimp only[Ps] at az;have eW:=I (show p_ L (k+1)=p_ L k++[((j:Int),x)] from fY);have F8:=db av a0;have aV:wr.cell? (B hG 0)=A (E (A (B kC cx)) L.length cC):=rb.o.cell 0;clear lT ak fY kD av a0;gi_wp2_with fail;refine cf.mono ?_;rintro e dI ⟨rfl,ho,dv⟩;have hQ:=I (hk.o.trans dv);have dh:=I (dv.aH rb.o cj.o (λ_=>bj));rw[<-eW.o] at ho;have lf:=I ho;clear dv ho;gi_wp2_with fail;go_roundw
   ·exact⟨k+1,bI F8.o,by have:=F8.o;go_num,hQ,dh,lf⟩
   ·simp[cu]
  ·obtain rfl:k=L.length:=G;have br:(L.length:Int)-1-(L.length:Nat)=-1:=G;rw[br];gi_wp2;go_end0;exact⟨⟨_,rfl⟩,ky.o⟩
def zp (L:List Int):List Int:=(p_ L L.length).map Dr
theorem avR (h:pre++[x]<+:zp L):x∈L/\pre.length<L.length:=by
 refine⟨?_,?_⟩
 ·obtain⟨p,aP,rfl⟩:=jB.1 (h.subset (fJ.2 (.inr (f2.2 rfl))));exact avN aP
 ·have:=h.length_le;unfold zp at this;rw[iT,ae3] at this;simp at this;omega
def Vw (b:Nat) (Q C:O):Prop:=ae Q C\/∃(l:Nat) (o dt:Obj),b<=l/\Q.heap[l]? =A o/\o.isCells=ao/\C=Q.putObj l dt
theorem avS (m:Nat) (hm:2<=m) (cc bB:Nat) (S:Nat->Prop) (cJ:O) (cP:Option cp) (cC:Nat) (L:List Int) (aw:L.length<=1000) (hy:∀u,fI bB (λ_=>False) S cJ u->cR u (E cP L.length cC) L) (cb:∀k,S k->k<bB) (w:O) (bU:fI bB (λ_=>False) S cJ w) (r':w.heap.size=bB) (h1:V w cc #[E cP L.length cC] 41):
 ae1 m 291 #[J cc 0] iI (Vw (bB+2)) (fI bB (λk=>bB+2<=k) S) (λpre x=>pre++[x]<+:zp L) (λce _=>ce=zp L) w:=by
 intro gd bG W hb ee ei h0;have lv:1<=m:=G;obtain⟨a',eB⟩:=al W.heap.size;obtain⟨d9,mb⟩:=al (W.alloc (an #[.func (.yield gd) #[] #[]] 90));have aX:=dx mb;have k2:=eK mb eB;have aV:d9.cell? (B cc 0)=A (E cP L.length cC):=((h1.aq hb).below aX (h1.aq hb).lt).cell 0;have g4:d9.heap.size=a'+1:=by rw[mb,eB];simp
 rw[mb] at aV;have hP:=hb.size;have e7:=I hy;have cj:=I cb;have ju:=I ei;have ld:=I ee;have cX:=db mb eB;have cw:=ig ((bU.trans (fI.bg hb)).trans (fI.bg aX)) k2 (show bB<=a'/\bB+1<=d9.heap.size by omega);have Pa:=I (ee _ _ _ h0 (.inl aX));clear hy cb ei ee bU r' h1 hb h0 mb aX k2 hP g4 eB;refine sL aCl rfl trivial ?_ rfl;simp only[ntmps291,g0,fV,gp,gA,g1,gI,gJ,gK,gL,f1,fW];gi_wp2_with fail;rw[<-cX.o.1,<-cX.o.2];refine jb (avO cP L.length cC d9) λfK nR=>?_;have a5:=dx nR;have hK:fK.heap.size=d9.heap.size+1:=by rw[nR];simp
 have CO:=eK nR rfl;have mc:=jU (cw.o.1.trans (fI.bg a5)) CO (cw.o.2.1.aq a5) (show bB<=d9.heap.size/\bB+2<=fK.heap.size by have:=cw.o.2.2.2;omega);have JW:=I (ld.o _ _ _ Pa.o (.inl a5));have dT:=I cw.o.2.2.1;clear nR a5 CO aV Pa hK;gi_wp2_with fail;refine Vv lv (gf:=311) (lb:=#[J d9.heap.size 0]) rfl (fg aCk bq rfl) (jk:=Ps) (ln:=λQ C=>ae Q C) (eb:=fI bB (λ_=>False) S) (Fi:=λpre x=>pre++[x]<+:p_ L L.length) (Y:=λce _=>ce=p_ L L.length)
  (λavT avU W' fi _ avV avW=>(avQ (m-1) G avT d9.heap.size bB (λ_=>False) S cJ cP cC L aw e7.o avU avV W' (mc.o.1.trans (fI.bg fi)) (mc.o.2.1.aq fi) (λh=>by have:=cj.o _ h;have:=mc.o.2.2.2.1;omega) avW).mono λe dI h=>⟨h.1,_,rfl,h.2⟩)
  (λQ ai k o h _ aQ _=>(h.block k (gU.1 aQ).1).trans aQ) fI.trans (λW o dt aQ ah=>fI.put (λh=>h) aQ ah) (λ_=>rfl)
  (λpre W=>bG (pre.map Dr) W/\V W a' #[.func (.yield gd) #[] #[]] 90)
  (λs Q C h hb=>⟨ld.o _ _ _ h.1 (.inl hb),h.2.aq hb⟩)
  (λs Q o dt h aQ ah=>⟨ld.o _ _ _ h.1 (.inr ⟨_,o,dt,bI mc.o.2.2.2.2,aQ,ah,rfl⟩),(rJ aQ ah h.2).trans h.2⟩)
  (λaI hV=>⟨ld.o _ _ _ JW.o (.inl hV),mc.o.2.2.1.aq hV⟩) (λce Q o dt h _ _=>h)
  (λp=>{tmps:=#[.func (.yield gd) #[] #[],J cc 0,J a' 0,dr,r c p.2,E cP L.length cC,.func (.func 311) #[] #[J d9.heap.size 0],r c p.1,r c p.2,dr,dr,dr,dr],defers:=[]}) ?assign ?body ?done
 case assign=>
  rintro l ⟨i,x⟩ W aT dQ;dsimp only[Ps];gi_wp2;exact dQ
 case body=>
  rintro l pre ⟨i,x⟩ W ⟨ee,cd⟩ aP a0;have md:pre.map Dr++[x]<+:zp L:=by
   obtain⟨t,ht⟩:=aP;exact⟨t.map Dr,by unfold zp;rw[<-ht];simp⟩
  obtain⟨fn,tmps,assign,body,az,cf⟩:=ju.o _ x W ee md;dsimp only[iI] at az;have bb:W.cell? (B a' 0)=A (.func (.yield gd) #[] #[]):=cd.cell 0;have bP:=I cd;clear md ee cd aP a0;gi_wp2_with fail;refine⟨gj,?_⟩;refine(X9 cf).mono ?_;rintro e dI ⟨rfl,ho,dv⟩;have dd:=I (show KeepsFrom fK.heap.size W dI/\fI bB (λ_=>False) S W dI/\bG ((pre++[(i,x)]).map Dr) dI/\V dI a' #[.func (.yield gd) #[] #[]] 90 (0,0) from
   ⟨⟨dv.size,λk o K aQ ah=>dv.oth k o aQ ah (cM mc.o.2.2.2.2 K)⟩,⟨dv.os,dv.tape,dv.output,dv.size,dv.cells,λ_ _ _ _ h=>h.elim⟩,by rw[qc];exact ho,dv.aH bP.o (λh=>by have:=cj.o _ h;have:=dT.o;omega) (λ_=>bj)⟩)
  clear ho dv;gi_wp2_with fail;exact dd.o
 case done=>
  rintro aF ce W fh rfl ⟨ee,cd⟩ ly;have SZ:=I ee;clear ee cd;gi_wp2_with fail;refine⟨a3,.inl ⟨_,_,rfl,Xn ly,?_⟩⟩;exact⟨_,mQ rfl _ _ _,⟨_,rfl⟩,_,rfl,ld.o _ _ _ SZ.o (.inr ⟨aF,_,_,cM mc.o.2.2.2.2 fh,ly,rfl,rfl⟩)⟩
def zr (w:O) (g:Raw) (N:Nat) (b3:Bool) (gv:Option cp):Prop:=(b3=ao/\gv=T)\/(b3=ad/\∃bE b0,gv=A (B bE 0)/\jq w bE g N b0/\1<=b0.length/\b0.length<=12)
def PF (w:O) (af:Nat) (g:Raw) (N:Nat) (bJ:Bool) (ga eG:Option cp):Prop:=(bJ=ao/\ga=T/\eG=T)\/(bJ=ad/\∃dk du of many bs l,ga=A (B dk 0)/\eG=A (B du 0)/\y_ w dk du af g N of many bs l)
def rj (w:O) (df:Nat) (g:Raw) (N:Nat) (b3 bJ:Bool):Prop:=
 jz g N/\1<=N/\∃af gv ga eG,V w df #[J af 0,a6 gv,a6 ga,a6 eG] 69 (0,0)/\eq w af g/\zr w g N b3 gv/\PF w af g N bJ ga eG
theorem zr.later {gv:Option cp} (h:zr w g N b3 gv) (hb:ae w D):zr D g N b3 gv:=by
 rcases h with h|⟨h,bE,b0,h1,h2,ap⟩
 ·exact .inl h
 ·exact .inr ⟨h,bE,b0,h1,h2.a_ (bu.bg hb),ap⟩
theorem PF.later {ga eG:Option cp} (h:PF w af g N bJ ga eG) (hb:ae w D):PF D af g N bJ ga eG:=by
 rcases h with h|⟨h,dk,du,of,many,bs,l,h1,h2,ap⟩
 ·exact .inl h
 ·exact .inr ⟨h,dk,du,of,many,bs,l,h1,h2,ap.later hb⟩
theorem rj.later {df:Nat} (h:rj w df g N b3 bJ) (hb:ae w D):rj D df g N b3 bJ:=by
 obtain⟨h1,h2,af,gv,ga,eG,ap,bl,cL,eI⟩:=h;exact⟨h1,h2,af,gv,ga,eG,ap.aq hb,bl.a_ (bu.bg hb),cL.later hb,eI.later hb⟩
theorem afV {df:Nat} (h:rj w df g N b3 bJ):aE aa 29 #[J df 0] w λe D=>e=au (aA ad)/\ae w D:=by
 obtain⟨_,_,af,gv,ga,eG,hb,dE,ht,aP⟩:=h;rcases ht with⟨_,rfl⟩|⟨_,bE,b0,rfl,yh,yE,K'⟩<;>rcases aP with⟨_,rfl,rfl⟩|⟨_,dk,du,of,many,bs,l,rfl,rfl,afW⟩
 ·have cj:aM (∀u,ae w u->u.cell? (B df 0)=A (J af 0)/\u.cell? (B df 1)=A (a6 T)/\u.cell? (B df 2)=A (a6 T)/\u.cell? (B df 3)=A (a6 T)):=λu Z=>⟨(hb.aq Z).cell 0,(hb.aq Z).cell 1,(hb.aq Z).cell 2,(hb.aq Z).cell 3⟩;have d':=I (bx w.heap.size w);obtain⟨bR,aV,bb,ch⟩:=cj.o w (bx _ _);go_in;go_wp2_with fail;refine jj (S:=λD=>D.cell? (B df 0)=A (J af 0)/\D.cell? (B df 1)=A (a6 T)/\D.cell? (B df 2)=A (a6 T)/\D.cell? (B df 3)=A (a6 T)) rfl ?_;have ax:=cj.o w.drew (d'.o.drew);change gV _ _ _ _ _ 28 _ _ w.drew;have bf:=I (d'.o.drew);repeat refine fA ?_
  refine eY 6 ax ?_;refine eY 7 ax ?_;refine eY 8 ax ?_;refine eY 9 ax ?_;refine eY 10 ax ?_;refine eY 11 ax ?_;refine eY 12 ax ?_;refine eY 13 ax ?_;refine eY 14 ax ?_;refine eY 15 ax ?_;refine eY 16 ax ?_;refine eY 17 ax ?_;refine eY 18 ax ?_;refine eY 19 ax ?_;refine eY 20 ax ?_;refine eY 21 ax ?_;refine eY 22 ax ?_;refine eY 23 ax ?_;refine eY 24 ax ?_;refine eY 25 ax ?_;repeat refine fA ?_
  refine i4 ?_;obtain⟨d0,d1,d2,qd⟩:=cj.o w.drew bf.o;have AS:=I bf.o;have d':=AS;go_wp2_with fail;refine jj (S:=λD=>D.cell? (B df 0)=A (J af 0)/\D.cell? (B df 1)=A (a6 T)/\D.cell? (B df 2)=A (a6 T)/\D.cell? (B df 3)=A (a6 T)) rfl ?_;have ax:=cj.o w.drew.drew (d'.o.drew);change gV _ _ _ _ _ 20 _ _ w.drew.drew;have bf:=I (d'.o.drew);repeat refine fA ?_
  refine eY 4 ax ?_;refine eY 5 ax ?_;refine eY 6 ax ?_;refine eY 7 ax ?_;refine eY 8 ax ?_;refine eY 9 ax ?_;refine eY 10 ax ?_;refine eY 11 ax ?_;refine eY 12 ax ?_;refine eY 13 ax ?_;refine eY 14 ax ?_;refine eY 15 ax ?_;refine eY 16 ax ?_;repeat refine fA ?_
  refine i4 ?_;go_wp2_with fail;go_ret;exact⟨rfl,bf.o⟩
 ·have cj:aM (∀u,ae w u->u.cell? (B df 0)=A (J af 0)/\u.cell? (B df 1)=A (a6 T)/\u.cell? (B df 2)=A (J dk 0)/\u.cell? (B df 3)=A (J du 0)):=λu Z=>⟨(hb.aq Z).cell 0,(hb.aq Z).cell 1,(hb.aq Z).cell 2,(hb.aq Z).cell 3⟩;have d':=I (bx w.heap.size w);have dq:=I (λu (Z:ae w u)=>(afW.later Z).fits);obtain⟨bR,aV,bb,ch⟩:=cj.o w (bx _ _);go_in;go_wp2_with fail;refine jj (S:=λD=>D.cell? (B df 0)=A (J af 0)/\D.cell? (B df 1)=A (a6 T)/\D.cell? (B df 2)=A (J dk 0)/\D.cell? (B df 3)=A (J du 0)) rfl ?_;have ax:=cj.o w.drew (d'.o.drew);change gV _ _ _ _ _ 28 _ _ w.drew;have bf:=I (d'.o.drew);repeat refine fA ?_
  refine eY 6 ax ?_;refine eY 7 ax ?_;refine eY 8 ax ?_;refine eY 9 ax ?_;refine eY 10 ax ?_;refine eY 11 ax ?_;refine eY 12 ax ?_;refine eY 13 ax ?_;refine eY 14 ax ?_;refine eY 15 ax ?_;refine eY 16 ax ?_;refine eY 17 ax ?_;refine eY 18 ax ?_;refine eY 19 ax ?_;refine eY 20 ax ?_;refine eY 21 ax ?_;refine eY 22 ax ?_;refine eY 23 ax ?_;refine eY 24 ax ?_;refine eY 25 ax ?_;repeat refine fA ?_
  refine i4 ?_;obtain⟨d0,d1,d2,qd⟩:=cj.o w.drew bf.o;have AS:=I bf.o;have d':=AS;go_wp2_with fail;refine jj (S:=λD=>D.cell? (B df 0)=A (J af 0)/\D.cell? (B df 1)=A (a6 T)/\D.cell? (B df 2)=A (J dk 0)/\D.cell? (B df 3)=A (J du 0)) rfl ?_;have ax:=cj.o w.drew.drew (d'.o.drew);change gV _ _ _ _ _ 20 _ _ w.drew.drew;have bf:=I (d'.o.drew);repeat refine fA ?_
  refine fs 16 ?_;refine gE 70 (dq.o w.drew.drew bf.o) ?_;rintro e yY ⟨⟨rfl⟩,hb⟩;have ef:=I (bf.o.trans (hb.mono bf.o.size))
  replace bf:=ef
  have ax:=cj.o yY bf.o;refine⟨ax,?_⟩;simp only[bN,bM,bO];repeat refine fA ?_
  refine i4 ?_;go_wp2_with fail;go_ret;exact⟨rfl,bf.o⟩
 ·have cj:aM (∀u,ae w u->u.cell? (B df 0)=A (J af 0)/\u.cell? (B df 1)=A (J bE 0)/\u.cell? (B df 2)=A (a6 T)/\u.cell? (B df 3)=A (a6 T)):=λu Z=>⟨(hb.aq Z).cell 0,(hb.aq Z).cell 1,(hb.aq Z).cell 2,(hb.aq Z).cell 3⟩;have d':=I (bx w.heap.size w);obtain⟨n,aC⟩:=al b0.length;have js:0<n:=G;have eU:aM (∀u,ae w u->aE aa 69 #[J bE 0] u λe D=>∃a R,e=au (E a n R)/\ae u D):=λu Z=>(Eo (yh.a_ (bu.bg Z))).mono (by
   rintro e D ⟨a,R,rfl,_,hb⟩;exact⟨a,R,by rw[aC],hb⟩)
  have gn:aM (∀u,ae w u->aE aa 27 #[J af 0] u λe D=>e=au (r c N)/\D=u):=λu Z=>by rw[yh.nodes];exact l3 af g u (dE.a_ (bu.bg Z))
  have AK:=I (λu (Z:ae w u)=>En (yh.a_ (bu.bg Z)));obtain⟨bR,aV,bb,ch⟩:=cj.o w (bx _ _);clear aC;go_in;go_wp2_with fail;refine jj (S:=λD=>D.cell? (B df 0)=A (J af 0)/\D.cell? (B df 1)=A (J bE 0)/\D.cell? (B df 2)=A (a6 T)/\D.cell? (B df 3)=A (a6 T)) rfl ?_;have ax:=cj.o w.drew (d'.o.drew);change gV _ _ _ _ _ 28 _ _ w.drew;have bf:=I (d'.o.drew);repeat refine fA ?_
  refine fs 10 ?_;refine gE 68 (toBelow (AK.o w.drew bf.o)) ?_;rintro e v2 ⟨⟨rfl⟩,hb⟩;have ef:=I (bf.o.trans (hb.mono bf.o.size))
  replace bf:=ef
  have ax:=cj.o v2 bf.o;refine⟨ax,?_⟩;simp only[bN,bM,bO];refine fs 15 ?_;refine gE 27 (toBelow (gn.o v2 bf.o)) ?_;rintro e rx ⟨⟨rfl⟩,hb⟩;have ef:=I (bf.o.trans (hb.mono bf.o.size))
  replace bf:=ef
  have ax:=cj.o rx bf.o;refine⟨ax,?_⟩;simp only[bN,bM,bO];repeat refine fA ?_
  refine fs 22 ?_;refine gE 69 (eU.o rx bf.o) ?_ (aP:=by rintro _ _ ⟨_,_,h,_⟩;cases h) (aQ:=by rintro _ ⟨_,_,h,_⟩;cases h);rintro e r7 ⟨a,R,⟨rfl⟩,hb⟩;have ef:=I (bf.o.trans (hb.mono bf.o.size))
  replace bf:=ef
  have ax:=cj.o r7 bf.o;refine⟨ax,?_⟩;simp only[bN,bM,bO];repeat refine fA ?_
  refine i4 ?_;obtain⟨d0,d1,d2,qd⟩:=cj.o r7 bf.o;have AS:=I bf.o;have d':=AS;go_wp2_with fail;refine jj (S:=λD=>D.cell? (B df 0)=A (J af 0)/\D.cell? (B df 1)=A (J bE 0)/\D.cell? (B df 2)=A (a6 T)/\D.cell? (B df 3)=A (a6 T)) rfl ?_;have ax:=cj.o r7.drew (d'.o.drew);change gV _ _ _ _ _ 20 _ _ r7.drew;have bf:=I (d'.o.drew);repeat refine fA ?_
  refine eY 4 ax ?_;refine eY 5 ax ?_;refine eY 6 ax ?_;refine eY 7 ax ?_;refine eY 8 ax ?_;refine eY 9 ax ?_;refine eY 10 ax ?_;refine eY 11 ax ?_;refine eY 12 ax ?_;refine eY 13 ax ?_;refine eY 14 ax ?_;refine eY 15 ax ?_;refine eY 16 ax ?_;repeat refine fA ?_
  refine i4 ?_;go_wp2_with fail;go_ret;exact⟨rfl,bf.o⟩
 ·have cj:aM (∀u,ae w u->u.cell? (B df 0)=A (J af 0)/\u.cell? (B df 1)=A (J bE 0)/\u.cell? (B df 2)=A (J dk 0)/\u.cell? (B df 3)=A (J du 0)):=λu Z=>⟨(hb.aq Z).cell 0,(hb.aq Z).cell 1,(hb.aq Z).cell 2,(hb.aq Z).cell 3⟩;have d':=I (bx w.heap.size w);obtain⟨n,aC⟩:=al b0.length;have js:0<n:=G;have eU:aM (∀u,ae w u->aE aa 69 #[J bE 0] u λe D=>∃a R,e=au (E a n R)/\ae u D):=λu Z=>(Eo (yh.a_ (bu.bg Z))).mono (by
   rintro e D ⟨a,R,rfl,_,hb⟩;exact⟨a,R,by rw[aC],hb⟩)
  have gn:aM (∀u,ae w u->aE aa 27 #[J af 0] u λe D=>e=au (r c N)/\D=u):=λu Z=>by rw[yh.nodes];exact l3 af g u (dE.a_ (bu.bg Z))
  have AK:=I (λu (Z:ae w u)=>En (yh.a_ (bu.bg Z)));have dq:=I (λu (Z:ae w u)=>(afW.later Z).fits);obtain⟨bR,aV,bb,ch⟩:=cj.o w (bx _ _);clear aC;go_in;go_wp2_with fail;refine jj (S:=λD=>D.cell? (B df 0)=A (J af 0)/\D.cell? (B df 1)=A (J bE 0)/\D.cell? (B df 2)=A (J dk 0)/\D.cell? (B df 3)=A (J du 0)) rfl ?_;have ax:=cj.o w.drew (d'.o.drew);change gV _ _ _ _ _ 28 _ _ w.drew;have bf:=I (d'.o.drew);repeat refine fA ?_
  refine fs 10 ?_;refine gE 68 (toBelow (AK.o w.drew bf.o)) ?_;rintro e v2 ⟨⟨rfl⟩,hb⟩;have ef:=I (bf.o.trans (hb.mono bf.o.size))
  replace bf:=ef
  have ax:=cj.o v2 bf.o;refine⟨ax,?_⟩;simp only[bN,bM,bO];refine fs 15 ?_;refine gE 27 (toBelow (gn.o v2 bf.o)) ?_;rintro e rx ⟨⟨rfl⟩,hb⟩;have ef:=I (bf.o.trans (hb.mono bf.o.size))
  replace bf:=ef
  have ax:=cj.o rx bf.o;refine⟨ax,?_⟩;simp only[bN,bM,bO];repeat refine fA ?_
  refine fs 22 ?_;refine gE 69 (eU.o rx bf.o) ?_ (aP:=by rintro _ _ ⟨_,_,h,_⟩;cases h) (aQ:=by rintro _ ⟨_,_,h,_⟩;cases h);rintro e r7 ⟨a,R,⟨rfl⟩,hb⟩;have ef:=I (bf.o.trans (hb.mono bf.o.size))
  replace bf:=ef
  have ax:=cj.o r7 bf.o;refine⟨ax,?_⟩;simp only[bN,bM,bO];repeat refine fA ?_
  refine i4 ?_;obtain⟨d0,d1,d2,qd⟩:=cj.o r7 bf.o;have AS:=I bf.o;have d':=AS;go_wp2_with fail;refine jj (S:=λD=>D.cell? (B df 0)=A (J af 0)/\D.cell? (B df 1)=A (J bE 0)/\D.cell? (B df 2)=A (J dk 0)/\D.cell? (B df 3)=A (J du 0)) rfl ?_;have ax:=cj.o r7.drew (d'.o.drew);change gV _ _ _ _ _ 20 _ _ r7.drew;have bf:=I (d'.o.drew);repeat refine fA ?_
  refine fs 16 ?_;refine gE 70 (dq.o r7.drew bf.o) ?_;rintro e yY ⟨⟨rfl⟩,hb⟩;have ef:=I (bf.o.trans (hb.mono bf.o.size))
  replace bf:=ef
  have ax:=cj.o yY bf.o;refine⟨ax,?_⟩;simp only[bN,bM,bO];repeat refine fA ?_
  refine i4 ?_;go_wp2_with fail;go_ret;exact⟨rfl,bf.o⟩
end
theorem fI.Vx {Vy:Nat->Prop} (h:fI bB be S Q ai) (ht:∀k,Vy k->be k):fI bB Vy S Q ai:=⟨h.os,h.tape,h.output,h.size,h.cells,λk o aQ ah K=>h.oth k o aQ ah (ht k K)⟩
theorem fI.more {jh:Nat->Prop} (h:fI bB be S Q ai) (aB:∀k,S k->jh k):fI bB be jh Q ai:=⟨h.os,h.tape,h.output,h.size,λk cs t fr hb K ht=>h.cells k cs t fr hb (λe=>K (aB k e)) ht,h.oth⟩
theorem fI.s' {b:Nat} (h:Kept (λk=>k=b) Q ai) (cb:S b) {t:cY} (hb:V Q b cs t fr):fI bB be S Q ai:=
 ⟨h.os,h.tape,h.output,h.size,λk _ _ _ K aB _=>h.block k K.lt (λe:k=b=>aB (e▸cb)),λk o aQ ah _=>(h.block k (gU.1 aQ).1 (λe:k=b=>by
  rw[e,show Q.heap[b]? =_ from hb] at aQ;obtain rfl:=eT aQ;cases ah)).trans aQ⟩
theorem fI.avZ (h:fI bB be S Q ai) (aw:Q.heap.size<=l) (dt:Obj):fI bB be S Q (ai.putObj l dt):=
 ⟨h.os,h.tape,h.output,by simpa using h.size,λk cs t fr hb aB ht=>(jr (bI hb.lt)).trans (h.cells k cs t fr hb aB ht),λk o aQ ah K=>(jr (bI ((gU.1 aQ).1))).trans (h.oth k o aQ ah K)⟩
theorem fI.set (h:fI bB be S Q ai) {p:cp} {t:cY} (hb:V ai p.block cs t fr) (aP:S p.block) (v:ac):fI bB be S Q (ai.setCell p v):=
 ⟨h.os,h.tape,h.output,by simpa using h.size,λk cs t fr K aB ht=>(d7 _ _ _ _ (show k≠p.block fromλe=>aB (e▸aP))).trans (h.cells k cs t fr K aB ht),λk o aQ ah K=>(d7 _ _ _ _ (show k≠p.block fromλe=>by
  have q:=h.oth k o aQ ah K;rw[e,show ai.heap[p.block]? =_ from hb] at q;obtain rfl:=eT q;cases ah)).trans (h.oth k o aQ ah K)⟩
theorem fI.below (h:fI bB (λk=>k≠ab) S Q ai) (aw:am<=bB) (hA:am<=Q.heap.size) (cb:∀k,k<am->¬S k/\k≠ab):bQ am Q ai:=
 ⟨h.os,h.tape,h.output,h.size,λk K=>by
  obtain⟨o,aQ⟩:∃o,Q.heap[k]? =A o:=⟨_,QC G⟩;obtain⟨h1,h2⟩:=cb k K;cases ah:o.isCells with
  |false=>rw[aQ];exact h.oth k o aQ ah h2
  |true=>
   cases o<;>simp[Obj.isCells] at ah;exact h.cells k _ _ _ aQ h1 G⟩
theorem fI.keeps (h:fI bB (λk=>k≠ab) S Q ai) (hb:ab<bB):KeepsFrom bB Q ai:=⟨h.size,λk o K aQ ah=>h.oth k o aQ ah (show k≠ab by omega)⟩
theorem nT.ae6 (h:nT W ab f) {k:Int} (ar:-9223372036854775808<=k/\k<=9223372036854775807):
 (l' 282 (.map (A ab)) (r c k) ao).run aa W= .ok ((f k).getD (E T 0 0)) W:=
 h.ae5 (e:=41) aiS (λu=>by kernel_rfl) ar
structure Kids (bB:Nat) (W:O) (ab:Nat) (C:List Int) (p:Nat) (f:Int->Option ac) (aj:Int->List Int):Prop where
 map:nT W ab f
 row:∀k v,f k=A v->W.ownsRow bB 3 1 v (aj k).length ((aj k).flatMap ec)
 dR:∀k,(aj k).length<=p
 hS:∀k,∀y∈aj k,y∈C/\C.idxOf k<C.idxOf y
 apart:∀k hY v ca b,f k=A v->f hY=A ca->v.ownBlock=A b->ca.ownBlock=A b->k=hY
 zero:∀k,f k=T->aj k=[]
theorem Kids.Vz (h:Kids bB W ab C p f aj) (k:Int):W.ownsRow bB 3 1 ((f k).getD (E T 0 0)) (aj k).length ((aj k).flatMap ec):=by
 cases e:f k with
 |some v=>exact h.row k v e
 |none=>rw[h.zero k e];exact oG _ _ _ _
theorem Kids.dy {mS:O} (h:Kids bB W ab C p f aj) (hm:mS.heap[ab]? =W.heap[ab]?) (K:∀k cs fr,bB<=k->V W k cs 3 fr->mS.heap[k]? =W.heap[k]?):Kids bB mS ab C p f aj:=
 ⟨h.map.dy hm,λk v e=>fB (h.row k v e) λb sn=>by obtain⟨q,_,aO⟩:=di (h.row k v e) sn;exact K b _ _ q aO,h.dR,h.hS,h.apart,h.zero⟩
theorem Kids.look (h:Kids bB W ab C p f aj) {k:Int} (ar:-9223372036854775808<=k/\k<=9223372036854775807):
 (l' 282 (.map (A ab)) (r c k) ao).run aa W= .ok ((f k).getD (E T 0 0)) W:=
 h.map.ae5 (e:=41) aiS (λu=>by kernel_rfl) ar
theorem Kids.begin (bB:Nat) (C:List Int) (h:W.heap[ab]? =A (.map #[] 0)):Kids bB W ab C 0 (λ_=>T) (λ_=>[]):=
 ⟨nT.empty h,λ_ _ e=>(by cases e),λ_=>bY _,λ_ _ h=>(by cases h),λ_ _ _ _ _ e=>(by cases e),λ_ _=>rfl⟩
theorem Kids.push (h:Kids bB W ab C p f aj) (aC:bB<=W.heap.size) (rH:ab<bB) {u:Int} (ak:x∈C) (av0:C.idxOf u<C.idxOf x) (Z:-9223372036854775808<=u/\u<=9223372036854775807) (aP:p<=1000) {d9:O} (mb:d9=W.alloc (an #[r c x] 3)):
 ∃ca aJ ba,(qN #[41,41] 41 #[(f u).getD (E T 0 0),E (A (B W.heap.size 0)) 1 1]).run aa d9= .ok ca aJ/\(uN 282 (.map (A ab)) (r c u) ca).run aa aJ= .ok () ba/\(∃Iy R',Kids bB ba ab C (p+1) Iy R')/\fI bB (λk=>k≠ab) (λ_=>False) W ba/\(∀k cs t fr,V W k cs t fr->(bB<=k->t≠3)->aJ.heap[k]? =W.heap[k]?)/\aJ.heap[ab]? =W.heap[ab]? :=by
 obtain⟨eP,ag,fL,gi,gt⟩:=m6 wn;have aX:=dx mb;have gS:=eK mb rfl;have g4:d9.heap.size=W.heap.size+1:=by rw[mb];simp
 have oz:ab<W.heap.size:=G;have hA:=h.dy (mS:=d9) (aX.block ab oz) λk cs fr _ aO=>aX.block k aO.lt;have nr:=hA.Vz u;obtain⟨ca,aJ,ar,fZ,hg,gP,_⟩:=tU (P:=aa) bB 41 41 3 eP _ 1 8 nG ag fL gi gt rfl G _ (aj u).length _ nr (E (A (B W.heap.size 0)) 1 1) 1 [r c x]
  ⟨rfl,by simp[v7],_,1,rfl,bY _,by unfold ff;omega,λj y az=>⟨_,0,rfl,by rw[jC,gS.cell,la];exact az⟩⟩ (by have:=h.dR u;unfold ff;omega) (bI (h.dR u)) G
 obtain⟨d_,vh⟩:=al ((f u).getD (E T 0 0));rw[<-vh] at ar hg gP nr;have b9:∀k,d_.ownBlock=A k->f u=A d_:=λk e=>by
  cases q:f u with
  |some v=>rw[q] at vh;rw[vh];rfl
  |none=>rw[q] at vh;rw[vh] at e;cases e
 have ry:aJ.heap[ab]? =W.heap[ab]? :=(hg.block ab G (λe=>by
  obtain⟨q,_,_⟩:=di nr e.symm;omega)).trans (aX.block ab oz)
 obtain⟨ba,TC,E3,dv⟩:=(h.map.dy ry).put (e:=41) aiS Z ca;have hP:W.heap.size<=ba.heap.size:=g3 hg.size dv.size;have vd:∀k,k<W.heap.size->d_.ownBlock≠A k->k≠ab->ba.heap[k]? =W.heap[k]? :=λk K h1 h2=>(dv.block k (bI hg.size) h2).trans ((hg.block k G (h8 h1)).trans (aX.block k K));have a0:∀k v b,f k=A v->v.ownBlock=A b->b<W.heap.size/\bB<=b:=λk v b br a4=>by
  obtain⟨q,_,aO⟩:=di (h.row k v br) a4;exact⟨aO.lt,q⟩
 refine⟨ca,aJ,ba,by rw[vh] at ar;exact ar,TC,⟨_,λk=>if k=u then aj u++[x] else aj k,E3,λk v e=>?_,λk=>?_,λk y az=>?_,λk hY v w b br a4 cO cq=>?_,λk e=>?_⟩,⟨dv.os.trans (hg.os.trans aX.os),dv.tape.trans (hg.tape.trans aX.tape),dv.output.trans (hg.output.trans aX.output),hP,λk cs t fr hb _ ht=>?_,λk o aQ ah K=>?_⟩,λk cs t fr hb ht=>(hg.block k (bI hb.lt) λe=>?_).trans (aX.block k hb.lt),ry⟩
 ·by_cases q:k=u
  ·subst q;rw[if_pos rfl] at e;obtain rfl:=eT e;rw[if_pos rfl,gW,w8];exact fB fZ λb sn=>dv.block b (by obtain⟨_,_,aO⟩:=di fZ sn;exact aO.lt) (by obtain⟨q,_,_⟩:=di fZ sn;omega)
  ·rw[if_neg q] at e⊢;refine fB (h.row k v e) λb sn=>vd b (a0 k v b e sn).1 (λa4=>q ?_) (bI ((a0 k v b e sn).2));exact h.apart k u v d_ b e (b9 b a4) sn a4
 ·have:=h.dR k;have:=h.dR u;by_cases q:k=u
  ·rw[if_pos q,gW];simp;omega
  ·rw[if_neg q];omega
 ·by_cases q:k=u
  ·subst q;rw[if_pos rfl] at az;rcases fJ.1 az with az|az
   ·exact h.hS k y az
   ·rw[f2.1 az];exact⟨ak,av0⟩
  ·rw[if_neg q] at az;exact h.hS k y az
 ·have new:∀j y,f j=A y->j≠u->y.ownBlock=A b->ca.ownBlock=A b->False:=λj y e q1 q2 bm=>by
   rcases gP with q|q
   ·rw[q] at bm;exact q1 (h.apart j u y d_ b e (b9 b bm) q2 bm)
   ·rw[q] at bm;have:=(a0 j y b e q2).1;have:=eT bm;omega
  by_cases q:k=u<;>by_cases K3:hY=u
  ·rw[q,K3]
  ·rw[if_pos q] at br;rw[if_neg K3] at a4;obtain rfl:=eT br;exact(new hY w a4 K3 cq cO).elim
  ·rw[if_neg q] at br;rw[if_pos K3] at a4;obtain rfl:=eT a4;exact(new k v br q cO cq).elim
  ·rw[if_neg q] at br;rw[if_neg K3] at a4;exact h.apart k hY v w b br a4 cO cq
 ·by_cases q:k=u
  ·rw[if_pos q] at e;cases e
  ·rw[if_neg q] at e⊢;exact h.zero k e
 ·refine vd k hb.lt (λe=>?_) (λe=>?_)
  ·obtain⟨q,_,aO⟩:=di (h.row u d_ (b9 k e)) e;exact ht q (er hb aO)
  ·obtain⟨eJ,R,hm,_⟩:=h.map;rw[<-e,show W.heap[k]? =_ from hb] at hm;cases hm
 ·refine(vd k (gU.1 aQ).1 (λe=>?_) K).trans aQ;obtain⟨_,_,aO⟩:=di (h.row u d_ (b9 k e)) e;rw[show W.heap[k]? =_ from aO] at aQ;obtain rfl:=eT aQ;cases ah
 ·obtain⟨q,_,aO⟩:=di (h.row u d_ (b9 k e.symm)) e.symm;exact ht q (er hb aO)
theorem Kids.mono {q:Nat} (h:Kids bB W ab C p f aj) (aP:p<=q):Kids bB W ab C q f aj:={h with dR:=λk=>cM (h.dR k) aP}
section
attribute [local go_sem] f'
structure K4 (am ag:Nat) (w:O) (g:Raw) (U N bz bv:Nat) (cx:Option cp) (dD c2 ab gs:Nat) (b4 aS C:List Int):Prop where
 tree:vo g.arcs U N b4 aS C
 Bm:V w bz (c6 c b4) 2
 kC:V w bv (c6 c aS) 3
 sX:w.ownsRow am 3 1 (E cx dD c2) C.length (C.flatMap ec)
 map:w.heap[ab]? =A (.map #[] 0)
 pE:V w gs (c6 c (d5 N 0)) 2
 jZ:am<=bz/\am<=bv/\am<=ab/\am<=gs
 ia:bz<ag/\bv<ag/\ab<ag/\gs<ag
 ne:bz≠gs
theorem K4.mono {ag ia:Nat} {u:O} (h:K4 am ag w g U N bz bv cx dD c2 ab gs b4 aS C) (hb:ae w u) (hh:ag<=ia):K4 am ia u g U N bz bv cx dD c2 ab gs b4 aS C:=by
 obtain⟨h1,h2,ap,bl,cL,eI,gu,⟨a,b,R,d⟩,iJ⟩:=h;exact⟨h1,h2.aq hb,ap.aq hb,fB bl (λk e=>by obtain⟨_,_,aO⟩:=di bl e;exact hb.block k aO.lt),(hb.block ab (gU.1 cL).1).trans cL,eI.aq hb,gu,⟨G,G,G,G⟩,iJ⟩
def Pt (am:Nat) (g:Raw) (U N:Nat) (j:Nat) (v:ac) (l h:Nat) (w:O):Prop:=match j with
 |2=>∃bz bv cx dD c2 b4 aS C,v=aZ #[jA N bz,jA N bv,E cx dD c2]/\vo g.arcs U N b4 aS C/\V w bz (c6 c b4) 2 (0,0)/\V w bv (c6 c aS) 3 (0,0)/\w.ownsRow l 3 1 (E cx dD c2) C.length (C.flatMap ec)/\l<=bz/\l<=bv/\bz<h/\bv<h
 |3=>∃ab,v= .map (A ab)/\w.heap[ab]? =A (.map #[] 0)/\l<=ab/\ab<h
 |5=>v=r c N
 |6=>∃gs,v=jA N gs/\V w gs (c6 c (d5 N 0)) 2 (0,0)/\l<=gs/\gs<h
 |7=>∃bz bv cx dD c2 ab gs b4 aS C,v=aZ #[jA N bz,jA N bv,E cx dD c2,.map (A ab),jA N gs]/\K4 am h w g U N bz bv cx dD c2 ab gs b4 aS C
 |8=>∃be bz bv cx dD c2 ab gs b4 aS C,v=a6 (A ⟨be,0,T⟩)/\V w be #[jA N bz,jA N bv,E cx dD c2,.map (A ab),jA N gs] 284 (0,0)/\K4 am h w g U N bz bv cx dD c2 ab gs b4 aS C/\l<=be/\be<h
 |9=>∃b,v=a6 (A ⟨b,0,T⟩)/\V w b #[a6 T] 278 (0,0)/\l<=b/\b<h
 |_=>True
theorem av1 (am:Nat) (g:Raw) (U N:Nat) (j:Nat) (v:ac) (l h:Nat) (w D:O) (ah:Pt am g U N j v l h w) (hb:ae w D):Pt am g U N j v l h D:=by
 unfold Pt at ah⊢;split at ah
 ·obtain⟨bz,bv,cx,dD,c2,b4,aS,C,h1,h2,ap,bl,cL,eI⟩:=ah;exact⟨bz,bv,cx,dD,c2,b4,aS,C,h1,h2,ap.aq hb,bl.aq hb,fB cL (λk e=>by obtain⟨_,_,aO⟩:=di cL e;exact hb.block k aO.lt),eI⟩
 ·obtain⟨ab,h1,h2,ap⟩:=ah;exact⟨ab,h1,(hb.block ab (gU.1 h2).1).trans h2,ap⟩
 ·exact ah
 ·obtain⟨gs,h1,h2,ap⟩:=ah;exact⟨gs,h1,h2.aq hb,ap⟩
 ·obtain⟨bz,bv,cx,dD,c2,ab,gs,b4,aS,C,h1,h2⟩:=ah;exact⟨bz,bv,cx,dD,c2,ab,gs,b4,aS,C,h1,h2.mono hb (bY _)⟩
 ·obtain⟨be,bz,bv,cx,dD,c2,ab,gs,b4,aS,C,h1,h2,ap,bl⟩:=ah;exact⟨be,bz,bv,cx,dD,c2,ab,gs,b4,aS,C,h1,h2.aq hb,ap.mono hb (bY _),bl⟩
 ·obtain⟨b,h1,h2,ap⟩:=ah;exact⟨b,h1,h2.aq hb,ap⟩
 ·trivial
def sH (gs eX:Nat):Nat->Prop:=λk=>k=gs\/k=eX
structure CV (bB:Nat) (W:O) (g:Raw) (af:Nat) (aN:Option cp) (dw k N U bk b_ dc be bz bv:Nat) (cx:Option cp) (dD c2 ab gs eX:Nat) (b4 aS C:List Int):Prop where
 k3:V W bk #[J af 0] 62
 k4:V W (bk+1) #[E aN k dw] 164
 k5:V W (bk+1+1) #[r c U] 3
 k7:V W b_ #[J be 0] 278
 k8:V W dc #[jA N eX] 41
 pu:V W be #[jA N bz,jA N bv,E cx dD c2,.map (A ab),jA N gs] 284
 Bm:V W bz (c6 c b4) 2
 kC:V W bv (c6 c aS) 3
 sX:W.ownsRow 0 3 1 (E cx dD c2) C.length (C.flatMap ec)
 tree:vo g.arcs U N b4 aS C
 cl:∀j,j=bk\/j=bk+1\/j=bk+1+1\/j=b_\/j=dc\/j=be\/j=bz\/j=bv\/(iB cx dD c2).ownBlock=A j->j<bB/\¬sH gs eX j
 low:ab<bB/\gs<bB/\eX<bB/\gs≠eX
theorem CV.a_ {W':O} {aN:Option cp} {dw b_ dc be:Nat} (h:CV bB W g af aN dw k N U bk b_ dc be bz bv cx dD c2 ab gs eX b4 aS C) {av2:Nat->Prop} (K:fI bB av2 (sH gs eX) W W'):CV bB W' g af aN dw k N U bk b_ dc be bz bv cx dD c2 ab gs eX b4 aS C:=by
 obtain⟨h1,h2,ap,bl,cL,eI,gu,h9,iJ,oO,lF,sc⟩:=h;have q:∀{j:Nat} {cs:Array ac} {t:cY} {fr:Nat×Nat},V W j cs t fr->j<bB/\¬sH gs eX j->V W' j cs t fr:=λhb av=>K.aH hb av.2 (λh=>by omega);exact⟨q h1 (lF _ a3),q h2 (lF _ a3),q ap (lF _ a3),q bl (lF _ a3),q cL (lF _ a3),q eI (lF _ a3),q gu (lF _ a3),q h9 (lF _ a3),fB iJ (λj e=>by
  obtain⟨_,_,aO⟩:=di iJ e;exact(q aO (lF j (by simp[e]))).trans aO.symm),oO,lF,sc⟩
theorem CV.mono {b2:Nat} {aN:Option cp} {dw b_ dc be:Nat} (h:CV bB W g af aN dw k N U bk b_ dc be bz bv cx dD c2 ab gs eX b4 aS C) (aC:bB<=b2):CV b2 W g af aN dw k N U bk b_ dc be bz bv cx dD c2 ab gs eX b4 aS C:=
 {h with cl:=λj av=>⟨jP (h.cl j av).1 aC,(h.cl j av).2⟩,low:=by obtain⟨a,b,R,d⟩:=h.low;exact⟨G,G,G,d⟩}
structure sI (bB:Nat) (cJ W:O) (M:List lk) (N ab gs eX:Nat) (C pre:List Int):Prop where
 kept:fI bB (λk=>k≠ab) (sH gs eX) cJ W
 VA:∃ja,ja.length=N/\V W gs (c6 c ja) 2 (0,0)/\∀m∈M,ja[m.v.toNat]? =A 0
 av3:∃X,X.length=N/\V W eX (c6 c X) 3 (0,0)/\(∀x∈X,0<=x/\x<=((12*13^pre.length:Nat):Int))/\∀m∈M,∃y,X[m.v.toNat]? =A y/\1<=y
 K5:∃f aj,Kids bB W ab C pre.length f aj
theorem sI.dy (h:sI bB cJ Q M N ab gs eX C pre) (K:fI bB (λk=>k≠ab) (sH gs eX) cJ ai) (ah:∀k cs t fr,V Q k cs t fr->ai.heap[k]? =Q.heap[k]?) (hb:ai.heap[ab]? =Q.heap[ab]?):sI bB cJ ai M N ab gs eX C pre:=by
 obtain⟨_,⟨ja,fO,fD,iU⟩,⟨X,cI,dB,hX⟩,f,aj,dQ⟩:=h;exact⟨K,⟨ja,fO,(ah _ _ _ _ fD).trans fD,iU⟩,⟨X,cI,(ah _ _ _ _ dB).trans dB,hX⟩,f,aj,dQ.dy hb λk cs fr _ aO=>ah _ _ _ _ aO⟩
theorem sI.below (h:sI bB cJ Q M N ab gs eX C pre) (hb:ae Q ai):sI bB cJ ai M N ab gs eX C pre:=
 h.dy (h.kept.trans (fI.bg hb)) (λk _ _ _ aO=>hb.block k aO.lt) (hb.block ab (by obtain⟨_,_,dQ⟩:=h.K5;exact dQ.map.lt))
theorem sI.put (h:sI bB cJ Q M N ab gs eX C pre) (hW:cJ.heap.size=bB) (rH:ab<bB) {o dt:Obj} (aw:bB<=l) (aQ:Q.heap[l]? =A o) (ah:o.isCells=ao):sI bB cJ (Q.putObj l dt) M N ab gs eX C pre:=
 h.dy (h.kept.avZ G _) (λk _ _ _ aO=>rJ aQ ah aO) (jr G)
theorem sI.st (h:sI bB cJ Q M N ab gs eX C pre) (hW:cJ.heap.size=bB) (rH:ab<bB) (aB:Vw (bB+2) Q ai):sI bB cJ ai M N ab gs eX C pre:=by
 rcases aB with hb|⟨l,o,dt,aw,aQ,ah,rfl⟩
 ·exact h.below hb
 ·exact h.put hW rH G aQ ah
structure K6 (w:O) (be N:Nat) (M:List lk) (cx:Option cp) (c2:Nat) (C:List Int) (ab:Nat) (ja:List Int) (f:Int->Option ac) (aj:Int->List Int):Prop where
 pu:∃bz bv gs,V w be #[jA N bz,jA N bv,E cx C.length c2,.map (A ab),jA N gs] 284 (0,0)/\V w gs (c6 c ja) 2
 len:ja.length=N
 zero:∀m∈M,ja[m.v.toNat]? =A 0
 ord:cR w (E cx C.length c2) C
 hS:∀v∈C,0<=v/\v<N
 nodup:C.Nodup
 map:nT w ab f
 row:∀k,cR w ((f k).getD (E T 0 0)) (aj k)
 K5:∀k,∀y∈aj k,y∈C/\C.idxOf k<C.idxOf y
 dR:∀k,(aj k).length<=12
theorem K6.below {u:O} {be:Nat} {ja:List Int} (h:K6 w be N M cx c2 C ab ja f aj) (hb:ae w u):K6 u be N M cx c2 C ab ja f aj:=by
 obtain⟨⟨bz,bv,gs,h1,h2⟩,ap,bl,cL,eI,gu,h9,iJ,oO,lF⟩:=h;exact⟨⟨bz,bv,gs,h1.aq hb,h2.aq hb⟩,ap,bl,cL.a_ (bu.bg hb),eI,gu,h9.dy (hb.block ab h9.lt),λk=>(iJ k).a_ (bu.bg hb),oO,lF⟩
theorem av4 (m:Nat) (hm:4<=m) (hf:jz g N) (h:eq w af g) (dU:l8 am w v M N) (ua:M.length<=12) (zq:∀m∈M,0<=m.v/\m.v<N) (ar:U<N):
 ge dY m aa 179 #[J af 0,v,r c U] w λe D=>∃be cx c2 C ab ja f aj,e=au (J be 0)/\K6 D be N M cx c2 C ab ja f aj/\ae w D:=by
 have lv:1<=m:=G;have E3:1<=m-1-1:=G;have vB:=hf.jo;obtain⟨aN,dw,rfl,_⟩:=dU.form;obtain⟨ay,bA⟩:=al (((w.alloc (an #[J af 0] 62)).alloc (an #[E aN M.length dw] 164)).alloc (an #[r c U] 3));obtain⟨bk,el⟩:=al w.heap.size;have Pu:=tW bA;have k3:V ay bk #[J af 0] 62:=by rw[bA,el];exact((V.new _ _ _ _).alloc _).alloc _
 have k4:V ay (bk+1) #[E aN M.length dw] 164:=by
  have k:=V.new (w.alloc (an #[J af 0] 62)) #[E aN M.length dw] 164 (0,0);rw[d8] at k;rw[bA,el];exact k.alloc _
 have k5:V ay (bk+2) #[r c U] 3:=by
  have k:=V.new ((w.alloc (an #[J af 0] 62)).alloc (an #[E aN M.length dw] 164)) #[r c U] 3 (0,0);rw[d8,d8] at k;rw[bA,el];exact k
 have g4:ay.heap.size=bk+3:=by rw[bA,el];simp
 have H:=jU h dU zq ar;have dq:=hf;have cX:=db bA el;clear bA el;refine sL func179 rfl trivial ?_ rfl;simp only[ntmps179,g0,fV,gp,gA,g1,gI,gJ,gK,gL,f1,fW];gi_wp2_with fail;rw[<-cX.o.1,<-cX.o.2];have gn:aM (∀u,ae ay u->aE aa 27 #[J af 0] u λe D=>e=au (r c N)/\D=u):=λu Z=>by rw[dq.nodes];exact l3 af g u (H.o.1.a_ (bu.bg (Pu.next' Z)))
 have bC:aM (∀u,ae ay u->u.cell? (B bk 0)=A (J af 0)/\u.cell? (B (bk+2) 0)=A (r c U)):=λu Z=>⟨(k3.aq Z).cell 0,(k5.aq Z).cell 0⟩;refine Mu 10 bC.o λq4 dm ax=>?_;have i7:=I dm;repeat first|refine fS ?_|refine ea ?_
 have Ea:∀u,(Instr.makeMap 282 T).run aa u= .ok (.map (A u.heap.size)) (u.alloc (.map #[] 0)):=λu=>by kernel_rfl
 have jT:=ys (P:=aa) 28 2 c 8 v5 bq N G G;refine yI [2,3,5,6,7,8,9] (Pt q4.heap.size g U N) (eF:=1) (λj v l h w D ah hb _=>av1 _ _ _ _ _ _ _ _ _ _ ah hb) (λD bU=>bC.o _ (i7.o.next' bU)) ?step ?fin
 case step=>
  intro i ag fj dZ jZ ia t u hp fP hF;simp only[gg,iS,or_false] at ag;have hj:=i7.o.next' hF.below;rcases ag with rfl|rfl|rfl|rfl|rfl|rfl|rfl
  ·have aFj:t[17]? =A (J af 0):=hF.base fP 17;have aFk:t[18]? =A (r c U):=hF.base fP 18;refine e3 50 #[J af 0,r c U] (N' af g N dq U ⟨G,bI H.o.2.2.2⟩ u (H.o.1.a_ (bu.bg (Pu.next' hj)))) ?_;rintro e cz ⟨v,rfl,b3,hb⟩;obtain⟨bz,bv,d_,b4,aS,C,rfl,q1,q2,bm,cZ,ek,jg⟩:=b3;obtain⟨cx,dD,c2,rfl⟩:=cZ.ic;exact⟨_,rfl,_,rfl,hb,bz,bv,cx,dD,c2,b4,aS,C,rfl,q1,q2,bm,cZ,ek,jg,q2.lt,bm.lt⟩
  ·exact gD (.map (A u.heap.size)) (u.alloc (.map #[] 0)) ⟨_,rfl,fb,_,rfl,vY _ _,bY _,a3⟩
  ·have aoM:t[21]? =A (J af 0):=hF.base fP 21;refine e3 27 #[J af 0] (gn.o u hj) ?_;rintro e cz ⟨rfl,h⟩;subst cz;exact⟨_,rfl,_,rfl,bx _ _,rfl⟩
  ·obtain⟨av5,ah,_⟩:=hF.jV hp 5 22;have ah:dZ 5=_:=ah;rw[ah] at av5;refine gD (jA N u.heap.size) (u.alloc (an (c6 c (d5 N 0)) 2)) ⟨_,rfl,fb,_,rfl,V.new _ _ _ _,bY _,a3⟩ (he:=by unfold jA;go_simp)
  ·obtain⟨av6,⟨bz,bv,cx,dD,c2,b4,aS,C,a4,q1,q2,bm,cZ,ek,jg,s9,Aa⟩,mr,_,th⟩:=hF.jV hp 2 19;obtain⟨aci,⟨ab,en,e4,g7,lI⟩,xK,_,vq⟩:=hF.jV hp 3 20;obtain⟨av7,⟨gs,y9,s1,fX,oM⟩,ux,_,Vo⟩:=hF.jV hp 6 23;have mR:=hF.apart 6 (hp 6 a3 bq) 2 (hp 2 a3 bq) G;rw[a4] at av6;rw[en] at aci;rw[y9] at av7;refine gD (aZ #[jA N bz,jA N bv,E cx dD c2,.map (A ab),jA N gs]) u ⟨_,rfl,bx _ _,bz,bv,cx,dD,c2,ab,gs,b4,aS,C,rfl,q1,q2,bm,Am cZ (λk e=>by have:=(cZ.lt k e).1;omega),e4,s1,⟨G,G,G,G⟩,⟨G,G,G,G⟩,G⟩ (he:=by unfold jA at*;go_simp)
  ·obtain⟨av8,⟨bz,bv,cx,dD,c2,ab,gs,b4,aS,C,wM,q⟩,mr,_,th⟩:=hF.jV hp 7 24;rw[wM] at av8;have hb:ae u (u.alloc (an #[jA N bz,jA N bv,E cx dD c2,.map (A ab),jA N gs] 284)):=fb;exact gD (J u.heap.size 0) (u.alloc (an #[jA N bz,jA N bv,E cx dD c2,.map (A ab),jA N gs] 284)) ⟨_,rfl,hb,u.heap.size,bz,bv,cx,dD,c2,ab,gs,b4,aS,C,rfl,V.new _ _ _ _,q.mono hb (bI hb.size),bY _,a3⟩ (he:=by unfold jA at*;go_simp)
  ·exact gD (J u.heap.size 0) (u.alloc (an #[a6 T] 278)) ⟨_,rfl,fb,_,rfl,V.new _ _ _ _,bY _,a3⟩
 case fin=>
  intro dZ jZ ia u hb dK _;obtain⟨⟨be,bz,bv,cx,dD,c2,ab,gs,b4,aS,C,x3,pu,b3,av9,_⟩,av_,_,th⟩:=dK 8 a3;obtain⟨⟨b_,om,k7,av',_⟩,awa,_,_⟩:=dK 9 a3;rw[x3,om];obtain⟨aJ,cK⟩:=al (u.setCell (B b_ 0) (J be 0));have lM:u.cell? (B b_ 0)=A (a6 T):=k7.cell 0;have xe:=k7.free 0 (.inr (cQ _));refine jG 10 aJ ?_ (he:=by rw[cK];go_simp);refine fc (tQ.normal ?_);have hj:=i7.o.next' hb;have km:ay.heap.size<=b_:=bI i7.o.size;have CW:ae ay aJ:=by rw[cK];exact hj.setCell (p:=B b_ 0) km _
  have hK:aJ.heap.size=u.heap.size:=by rw[cK];simp
  obtain⟨eX,BM⟩:=al aJ.heap.size;obtain⟨dc,kX⟩:=al (eX+1);obtain⟨ba,cg⟩:=al (aJ.alloc (an (c6 c (d5 N 0)) 3));obtain⟨bD,gm⟩:=al (ba.alloc (an #[E (A (B eX 0)) N N] 41));have oX:ba.heap.size=dc:=by rw[cg,kX,BM];simp
  have ck:=dx cg;have cT:=dx gm;have kR:bD.heap.size=eX+2:=by rw[gm];simp[oX,kX]
  have yf:=ck.next' cT;have ae7:V bD eX (c6 c (d5 N 0)) 3:=(show V ba eX _ _ _ by rw[cg,BM];exact V.new _ _ _ _).below cT G;have k8:V bD dc #[jA N eX] 41:=by rw[gm,<-oX];exact V.new _ _ _ _
  have p':∀{j:Nat} {cs:Array ac} {t:cY} {fr:Nat×Nat},V u j cs t fr->t≠278->V bD j cs t fr:=λ{j cs t fr} av ht=>by
   have q:V aJ j cs t fr:=by rw[cK];exact av.gr _ _ (λe=>by have e:j=b_:=e;subst e;exact ht (er av k7))
   exact q.aq yf
  have ae8:V bD b_ #[J be 0] 278:=by
   have q:V aJ b_ #[J be 0] 278:=by rw[cK];exact k7.set 0 (J be 0)
   exact q.aq yf
  have a0:∀{j:Nat} {cs:Array ac} {t:cY} {fr:Nat×Nat},V u j cs t fr->j≠eX:=λav=>by have:=av.lt;omega
  have b9:∀{j:Nat} {cs:Array ac} {t:cY} {fr:Nat×Nat},V u j cs t fr->t≠2->j≠gs:=λav ht e=>by subst e;exact ht (er av b3.pE)
  have K7:=k3.aq hj;have K8:=k4.aq hj;have K9:=k5.aq hj;have VB:CV bD.heap.size bD g af aN dw M.length N U bk b_ dc be bz bv cx dD c2 ab gs eX b4 aS C:=by
   have Tt:∀k,(iB cx dD c2).ownBlock=A k->k≠gs/\k≠eX/\k<u.heap.size:=λk e=>by
    obtain⟨_,_,aO⟩:=di b3.sX e;exact⟨b9 aO bj,a0 aO,aO.lt⟩
   refine⟨p' K7 bj,p' K8 bj,p' K9 bj,ae8,k8,p' pu bj,p' b3.Bm bj,p' b3.kC bj,?_,b3.tree,λj av=>?_,bI b3.ia,bI b3.ia,G,bI b3.ia⟩
   ·refine fB (Am b3.sX λ_ _=>cQ _) λk e=>?_;obtain⟨_,_,aO⟩:=di b3.sX e;exact(p' aO bj).trans aO.symm
   ·rcases av with rfl|rfl|rfl|rfl|rfl|rfl|rfl|rfl|av
    ·exact⟨bI K7.lt,λh=>h.elim (b9 K7 bj) (a0 K7)⟩
    ·exact⟨bI K8.lt,λh=>h.elim (b9 K8 bj) (a0 K8)⟩
    ·exact⟨bI K9.lt,λh=>h.elim (b9 K9 bj) (a0 K9)⟩
    ·exact⟨bI k7.lt,λh=>h.elim (b9 k7 bj) (a0 k7)⟩
    ·exact⟨G,λh=>h.elim (λe=>by have:=b3.ia;omega) (λe=>by omega)⟩
    ·exact⟨bI pu.lt,λh=>h.elim (b9 pu bj) (a0 pu)⟩
    ·exact⟨bI b3.Bm.lt,λh=>h.elim b3.ne (a0 b3.Bm)⟩
    ·exact⟨bI b3.kC.lt,λh=>h.elim (b9 b3.kC bj) (a0 b3.kC)⟩
    ·obtain⟨q1,q2,bm⟩:=Tt j av;exact⟨G,λh=>h.elim q1 q2⟩
  have VC:=I VB;have nv:=I (cv (p' b3.pE bj) (cv (show bD.heap[ab]? =A (.map #[] 0) by
   have e:ab≠b_:=λe=>by have:=b3.map;rw[e,show u.heap[b_]? =_ from k7] at this;cases this
   have mT:ab<u.heap.size:=(gU.1 b3.map).1;rw[yf.block ab G,cK,d7 _ _ _ _ (show ab≠b_ from e)];exact b3.map) (cv ae7 (cv (Pu.next' (CW.trans (yf.mono CW.size))) (show w.heap.size<=gs/\w.heap.size<=ab/\w.heap.size<=eX/\w.heap.size<=be from by have:=b3.jZ;have:=Pu.size;have:=i7.o.size;omega)))))
  have ae9:=I (gn.o aJ CW);have nX:=qV cg gm BM kX oX;have gR:bD.cell? (B (bk+1) 0)=A (E aN M.length dw):=VB.k4.cell 0;rw[gm,cg,BM] at gR;have ch:aJ.cell? (B bk 0)=A (J af 0):=(bC.o aJ CW).1;have aFl:=ys (P:=aa) 41 3 c 8 nG NN N G G;clear hj km CW hK BM kX cg gm oX ck cT kR yf ae7 k8 p' ae8 a0 b9 K7 K8 K9 VB b3 pu k7 lM xe cK hb th x3 om av' awa av9 av_ bC jT Ea i7;gi_wp2_with fail;refine⟨trivial,?_⟩;refine yH (im.2 ae9.o) ?_;clear ae9 ch;gi_wp2_with fail;rw[<-nX.o.2.2.1,<-nX.o.1,<-nX.o.2.2.2.1,<-nX.o.2.1];obtain⟨bB,r'⟩:=al bD.heap.size;rw[<-r'] at VC;have ae_:=I r';clear r';have vR:=I (show∃X,X.length=N/\V bD eX (c6 c X) 3 (0,0)/\(∀x∈X,0<=x/\x<=(0:Nat))/\∀j (av:j<M.length),j<0->∃y,X[M[j].v.toNat]? =A y/\1<=y from⟨_,jD,nv.o.2.2.1,λx ak=>by rw[Mb ak];omega,λj av h=>by omega⟩);gi_loopw [31] (λi wr=>∃(k:Nat),k<=M.length/\i=r c k/\aM (fI bB (λ_=>True) (λk=>k=eX) bD wr)/\aM (∃X,X.length=N/\V wr eX (c6 c X) 3 (0,0)/\(∀x∈X,0<=x/\x<=(k:Nat))/\∀j (av:j<M.length),j<k->∃y,X[M[j].v.toNat]? =A y/\1<=y)) (λi _=>M.length-(cu i).toNat)
  ·exact⟨0,cQ _,rfl,I (fI.refl _ _ _ _),vR⟩
  ·obtain⟨k,K,rfl,ty,ae'⟩:=hrel;have oI:ae w wr:=nv.o.2.2.2.1.trans ((ty.o.Vx (Vy:=λk=>k≠ab) (λ_ _=>trivial)).below (g3 nv.o.2.2.2.1.size ae_.o) nv.o.2.2.2.1.size (λk K=>⟨λe=>by have e:k=eX:=e;have:=nv.o.2.2.2.2;omega,bI nv.o.2.2.2.2⟩));by_cases a0:k<M.length
   ·have ie:(k:Int)<M.length:=G;have k0:=ew k;have hm:=H.o.2.1.dy (u:=wr) (λj e=>by obtain⟨_,_,aO⟩:=di H.o.2.1.row e;exact oI.block j aO.lt) (λj cs fr aO=>oI.block j aO.lt);obtain⟨_,_,a8,hg⟩:=hm.form;obtain⟨awb,rfl⟩:=(by simpa using a8:aN=_/\dw=_).1▸hg G;have ry:l8 am wr (E (A (B awb 0)) M.length dw) M N:=hm;obtain⟨q0,q1,q2,bm,cZ,ek,jg⟩:=ry.at a0;have aK:=H.o.2.2.1 _ (gB a0);obtain⟨q,aO⟩:∃q:Nat,M[k].v=(q:Int):=⟨M[k].v.toNat,G⟩;rw[aO] at q0 aK;have aFm:q<N:=G;have atH:(q:Int)<N:=aK.2;have zY:(0:Int)<=q:=aK.1;obtain⟨X,cI,dB,hX,ya⟩:=ae'.o;obtain⟨y,az⟩:=al (X[q]'G);have f8:=hX y (by rw[az];exact gB _);have gc:0<=y:=f8.1;have h7:y<=12:=G;have awc:∀j (av:j<M.length),j<k+1->∃z,(X.set q (y+1))[M[j].v.toNat]? =A z/\1<=z:=λj av yu=>by
     by_cases e:M[j].v.toNat=q
     ·exact⟨y+1,by rw[e,tJ G],G⟩
     ·rw[uM (h8 e)];exact ya j av (by
       by_cases a4:j=k
       ·subst a4;exact absurd (by rw[aO];rfl) e
       ·omega)
    have awd:∀x∈X.set q (y+1),0<=x/\x<=((k+1:Nat):Int):=λx ak=>by
     rcases QA ak with h|h
     ·have:=hX x h;omega
     ·omega
    obtain⟨fl,jT⟩:=al (M[k]);rw[<-jT] at q1 q2 bm cZ ek jg;unfold jA at q1 q2 cZ ek;obtain⟨iV,lg⟩:=al (wr.alloc (an #[r c q,E (A (B fl.d1 0)) N N,E (A (B fl.a1 0)) N N,E fl.ir fl.b2 fl.aV,E (A (B fl.d2 0)) N N,E (A (B fl.a2 0)) N N,E fl.iO fl.cm fl.bb] 288));have kO:=dx lg;have Cj:=VC.o.a_ (ty.o.more (jh:=sH gs eX) λ_ h=> .inr h);have zc:=dB.aq kO;have rz:iV.cell? (B dc 0)=A (E (A (B eX 0)) N N):=(Cj.k8.aq kO).cell 0;have afa:=zc.cell q;rw[kd _ _ _ G,<-az] at afa;have awe:=zc.free q (.inr (cQ _));have Pv:=I ((ty.o.trans (fI.bg kO)).set (p:=B eX q) zc rfl (r c (y+1)));have afb:=I (show∃X,X.length=N/\V (iV.setCell (B eX q) (r c (y+1))) eX (c6 c X) 3 (0,0)/\(∀x∈X,0<=x/\x<=((k+1:Nat):Int))/\∀j (av:j<M.length),j<k+1->∃y,X[M[j].v.toNat]? =A y/\1<=y from⟨X.set q (y+1),by rw[gN];exact cI,by
     have h:=zc.set q (r c (y+1))
     rwa[tO] at h,awd,awc⟩)
    rw[lg] at rz afa awe Pv afb;clear cI az jT lg;gi_wp2_with fail;go_roundw
    ·exact⟨k+1,G,by go_num,Pv,afb⟩
    ·simp[cu];omega
   ·obtain rfl:k=M.length:=G;have p6:=VC.o.a_ (ty.o.more (jh:=sH gs eX) λ_ h=> .inr h);have lM:wr.cell? (B b_ 0)=A (J be 0):=p6.k7.cell 0;have VD:wr.cell? (B be 2)=A (E cx dD c2):=p6.pu.cell 2;obtain⟨_,_,awf,_⟩:=qk p6.sX;obtain rfl:dD=C.length:=(by simpa using awf:_/\dD=C.length/\_).2.1;gi_wp2_with fail;refine jb (avP cx C.length c2 wr) λcJ tC=>?_;have hl:=dx tC;have awg:=eK tC rfl;have ud:cJ.heap.size=wr.heap.size+1:=by rw[tC];simp
    obtain⟨b2,BE⟩:=al cJ.heap.size;have awh:bB<=b2:=g3 ty.o.size ae_.o;have j1:CV b2 cJ g af aN dw M.length N U bk b_ dc be bz bv cx C.length c2 ab gs eX b4 aS C:=(p6.a_ (fI.bg (be:=λ_=>False) hl)).mono awh;have awi:sI b2 cJ cJ M N ab gs eX C []:=by
     obtain⟨X,cI,dB,hX,ya⟩:=ae'.o;have oV:V cJ gs (c6 c (d5 N 0)) 2:=by
      have q:=ty.o.aH nv.o.1 (λe=>p6.low.2.2.2 e) (λ_=>bj);exact q.aq hl
     have rH:cJ.heap[ab]? =A (.map #[] 0):=by
      have q:=ty.o.oth ab _ nv.o.2.1 rfl trivial;exact(hl.block ab (gU.1 q).1).trans q
     refine⟨fI.refl _ _ _ _,⟨_,jD,oV,λm hm=>?_⟩,⟨X,cI,dB.aq hl,λx ak=>?_,λm hm=>?_⟩,_,_,Kids.begin b2 C rH⟩
     ·have:=H.o.2.2.1 m hm;rw[Il,if_pos G]
     ·have:=hX x ak;exact⟨this.1,by simp;omega⟩
     ·obtain⟨j,av,rfl⟩:=FL.1 hm;exact ya j av av
    have q_:=I BE;have afc:=I awg;have qI:=I (oI.trans (hl.mono oI.size));have go:=I nv.o.2.2.2.2;obtain⟨b6,sa⟩:=al wr.heap.size;rw[<-sa] at afc⊢;clear tC BE sa;gi_wp2_with fail;have VE:∀u,fI b2 (λ_=>False) (sH gs eX) cJ u->cR u (E cx C.length c2) C:=λu Z=>jv rfl (j1.a_ Z).sX;have afd:C.length<=1000:=by
     have:=t6 N C j1.tree.nodup j1.tree.hS;omega
    refine Vv lv (gf:=291) (lb:=#[J b6 0]) rfl (fg aCl bq rfl) (jk:=iI) (ln:=Vw (b2+2)) (eb:=fI b2 (λk=>b2+2<=k) (sH gs eX)) (Fi:=λpre x=>pre++[x]<+:zp C) (Y:=λce _=>ce=zp C)
     (avS (m-1) G b6 b2 (sH gs eX) cJ cx c2 C afd VE (λk K=>K.elim (λe=>by have:=j1.low;omega) (λe=>by have:=j1.low;omega)) cJ (fI.refl _ _ _ _) q_.o.symm afc.o)
     ?st fI.trans ?kb (λ_=>rfl) (λpre W=>sI b2 cJ W M N ab gs eX C pre) (λs Q ai h aB=>h.st q_.o.symm j1.low.1 aB) (λs Q o dt h aQ ah=>h.put q_.o.symm j1.low.1 (bI q_.o) aQ ah) (λaI hV=>awi.below hV) (λ_ _ _ _ h _ _=>h) ?a1 ?assign ?body ?done
    case st=>
     intro Q ai k o aB K aQ ah;rcases aB with hb|⟨l,ir,iO,aw,_,_,rfl⟩
     ·exact(hb.block k (gU.1 aQ).1).trans aQ
     ·exact(jr (bI q_.o)).trans aQ
    case kb=>exactλW o dt aQ ah=>fI.put (λh=>by have:=q_.o;omega) aQ ah
    case assign=>
     intro l x W aT dQ;dsimp only[iI];gi_wp2;exact dQ
    case body=>
     rintro l pre x W bS aP a0;obtain⟨VF,awj⟩:=avR aP;have yK:=j1.tree.hS x VF;obtain⟨x,rfl⟩:=r6 yK.1;have HN:x<N:=G;have UG:(x:Int)<N:=yK.2;have j7:(0:Int)<=x:=yK.1;have Cj:=j1.a_ bS.kept;have gl:W.cell? (B (bk+1+1) 0)=A (r c U):=Cj.k5.cell 0;obtain⟨dG,Og⟩:∃a,aS[x]? =A a:=⟨_,eA (bI j1.tree.yS)⟩;obtain⟨rW,Mq,afe,aff,hit⟩:∃(rW:bd) (Mq:Bool),(if 0<=dG/\dG<(g.arcs.length:Int) then g.arcs[dG.toNat]?.getD (0,0,0) else(0,0,0))=rW/\decide (0<=dG/\dG<(g.arcs.length:Int))=Mq/\(Mq=ad->rW.1∈C/\C.idxOf rW.1<C.idxOf (x:Int)):=by
      refine⟨_,_,rfl,rfl,λh=>?_⟩;have h:=of_decide_eq_true h;rw[if_pos h];have xn:oZ aS (x:Int)=dG:=by unfold oZ;rw[ko,Og];rfl
      rcases j1.tree.tree x VF with⟨_,q⟩|⟨n,aC,q1,q2,bm,cZ⟩
      ·omega
      ·have e:dG.toNat=n:=G;rw[e,eA aC];exact⟨bm,cZ⟩
     have rN:aM (∀u,eq u af g->aE aa 197 #[J af 0,r c dG] u λe D=>e=au (b8 #[aZ #[r c rW.1,r c rW.2.1,r c rW.2.2],aA Mq])/\ae u D):=λu Z=>by
      have:=D_ af g dG u Z;rw[afe,aff] at this;exact this
     clear afe aff;iterate 11 gi_step
     refine aji (λa D=>∃(own:Int) (afg afh afi afj afk afl afm afn afo afp afq afr afs aft afu afv:ac),a={tmps:=#[J af 0,E aN M.length dw,r c U,J bk 0,J (bk+1) 0,J (bk+1+1) 0,a6 T,J b_ 0,J dc 0,dr,u10,r c x,r c own,dr,dr,dr,dr,J af 0,r c U,dZ 2,dZ 3,J af 0,dZ 5,dZ 6,dZ 7,J be 0,J af 0,r c N,E (A (B eX 0)) N N,E aN M.length dw,r c (M.length:Nat),r c (M.length:Nat),aA ao,u33,u34,u35,u36,u37,u38,u39,u40,u41,u42,J be 0,J be 0,J be 0,J be 2,E cx C.length c2,.func (.func 291) #[] #[J b6 0],r c x,afg,afh,afi,afj,afk,afl,afm,afn,afo,afp,afq,afr,afs,aft,afu,afv,dr,dr,dr,dr,dr,dr,dr,dr,dr,dr,dr,dr,dr,dr,dr,dr,dr,dr,dr,dr,dr,dr,dr,dr,dr,dr,dr,dr,dr,dr,dr,dr,dr,dr,dr,dr,dr,dr,dr,dr,dr,dr,dr,dr,dr,dr,dr,dr,dr,dr,dr,dr,dr,dr,dr,dr,dr,dr,dr,dr,dr,dr,dr,dr,dr,dr,dr,dr,dr,dr,dr,dr,dr,dr],defers:=[]}/\ae W D) ?_ ?_
     ·by_cases yK:x=U
      ·subst yK;have MW:((x:Int)==(x:Int))=ad:=beq_self_eq_true _;gi_wp2_with fail;exact⟨_,_,_,_,_,_,_,_,_,_,_,_,_,_,_,_,_,rfl,bx _ _⟩
      ·have MW:((x:Int)==(U:Int))=ao:=by rw[beq_eq_false_iff_ne];omega
       have awk:=H.o.2.1.below (qI.o.trans (bS.kept.below (g3 qI.o.size q_.o) qI.o.size (λk K=>⟨λh=>h.elim (λe=>by have:=go.o;omega) (λe=>by have:=go.o;omega),bI go.o⟩)));obtain⟨y,az⟩:∃y,y=b4[x]'(bI Cj.tree.tg):=⟨_,rfl⟩;have awl:=I (λu (Z:ae W u)=>avJ (awk.below Z) ua (U:=U) (x:=x) H.o.2.2.2 HN);have Fj:aM (∀u,ae W u->u.cell? (B b_ 0)=A (J be 0)/\u.cell? (B be 0)=A (E (A (B bz 0)) N N)/\u.cell? (B bz x)=A (r c y)/\u.cell? (B (bk+1) 0)=A (E aN M.length dw)/\u.cell? (B (bk+1+1) 0)=A (r c U)):=λu Z=>by
        have q:=Cj.a_ (fI.bg (bB:=b2) (be:=λ_=>False) Z);exact⟨q.k7.cell 0,q.pu.cell 0,by rw[q.Bm.cell,kd _ _ _ (bI Cj.tree.tg),<-az],q.k4.cell 0,q.k5.cell 0⟩
       clear az;gi_wp2_with fail;refine F3 13 Fj.o λdV dz ax=>?_;repeat first|refine fS ?_|refine ea ?_
       refine dJ 11 ?_;refine e3 256 #[E aN M.length dw,r c U,r c x] (awl.o dV dz) ?_;rintro e cz ⟨z,rfl,a5⟩;have iG:=I (dz.next' a5);have ax:=Fj.o cz iG.o;refine⟨_,rfl,λ_=>ax,?_⟩;simp only[bN,bM,bO];repeat refine ea ?_
       refine dJ 13 ?_;refine Mr (D:=cz) rfl rfl rfl (by rfl) (by rfl) (by go_simp;rfl) ⟨gj,?_⟩;refine fc ?_;exact⟨_,_,_,_,_,_,_,_,_,_,_,_,_,_,_,_,_,rfl,iG.o⟩
     ·rintro a d9 ⟨own,afg,afh,afi,afj,afk,afl,afm,afn,afo,afp,afq,afr,afs,aft,afu,afv,rfl,CQ⟩;have j6:=bS.below CQ;have xS:=j1.a_ j6.kept;obtain⟨f,aj,dQ⟩:=j6.K5;obtain⟨X,cI,dB,hX,ya⟩:=j6.av3;have es:=dQ.Vz x;have iD:=dQ.look (k:=(x:Nat)) ⟨G,G⟩;have xA:=dQ.dR x;have OX:=dQ.hS x;obtain⟨ot,hs,K_,_⟩:=qk es;rw[K_] at es iD;obtain⟨w2,VG⟩:=al (aj x);rw[<-VG] at es iD xA OX;have aFn:cR d9 (E ot w2.length hs) w2:=jv rfl es;have lM:d9.cell? (B b_ 0)=A (J be 0):=xS.k7.cell 0;have VD:d9.cell? (B be 3)=A (.map (A ab)):=xS.pu.cell 3;have nm:pre.length<=11:=g3 awj (t6 N C j1.tree.nodup j1.tree.hS);obtain⟨fv,ng⟩:=al (12*13^pre.length);have aFo:fv<=21505924728444:=by
       rw[ng];exact XV 12 (Nat.pow_le_pow_right (n:=13) G nm)
      rw[<-ng] at hX;obtain⟨fU,fL⟩:∃z,X[x]? =A z:=⟨_,eA G⟩;have gi:=hX fU (L9 fL);have KU:=db dQ VG;have e7:=I (cv cI (cv dB (cv hX (cv ya (cv fL (cv ng nm))))));have VH:=I (show∃z,V d9 eX (c6 c (X.set x z)) 3 (0,0)/\fU<=z/\z<=((fv*(0+1):Nat):Int) from⟨fU,by rw[show X.set x fU=X by obtain⟨_,e⟩:=r4.1 fL;rw[<-e];exact List.set_getElem_self _];exact dB,G,G⟩);clear VG cI ng;gi_wp2_with fail;gi_loopw [12,73] (λo i wr=>∃(j:Nat) (q:Int),j<=w2.length/\o=r c q/\i=r c j/\aM (Kept (λk=>k=eX) d9 wr)/\aM (∃z,V wr eX (c6 c (X.set x z)) 3 (0,0)/\fU<=z/\z<=((fv*(j+1):Nat):Int))) (λ_ i _=>w2.length-(cu i).toNat)
      ·exact⟨0,own,cQ _,rfl,rfl,I (Kept.refl _ _),VH⟩
      ·obtain⟨j,q,av,rfl,rfl,CX,afw⟩:=hrel;have HO:=xS.a_ (fI.s' (bB:=b2) (be:=λ_=>False) (S:=sH gs eX) CX.o (.inr rfl) e7.o.2.1);by_cases a0:j<w2.length
       ·have ie:(j:Int)<w2.length:=G;have ku:=ew j;have aFp:(j:Int)<=12:=g3 xA e7.o.2.2.2.2.2.2;have QY:cR wr (E ot w2.length hs) w2:=jv rfl (fB es λb e=>by
         obtain⟨q1,_,aO⟩:=di es e;exact CX.o.block b aO.lt (λe:b=eX=>by have:=j1.low;omega))
        obtain⟨fe,aMr,rfl,d⟩:=QY.at j a0;obtain⟨VI,afx⟩:=OX _ (gB a0);have HP:=j1.tree.hS _ VI;obtain⟨y,az⟩:∃y:Nat,w2[j]=(y:Int):=⟨w2[j].toNat,G⟩;rw[az] at d HP afx;have awm:y≠x:=λe=>by rw[e] at afx;omega
        have pY:y<N:=G;have arH:(y:Int)<N:=HP.2;have mi:(0:Int)<=y:=HP.1;obtain⟨ja,fO,fD,_⟩:=j6.VA;have awn:V wr gs (c6 c ja) 2:=CX.o.aH fD (λe:gs=eX=>j1.low.2.2.2 e);have wC:=awn.cell y;rw[kd _ _ _ G] at wC;generalize ja[y]'G=Pw at wC;have lM:wr.cell? (B b_ 0)=A (J be 0):=HO.k7.cell 0;have VD:wr.cell? (B be 4)=A (E (A (B gs 0)) N N):=HO.pu.cell 4;have afy:=I (aoB q Pw wr);generalize ra (Ch 0 2305843009213693952) [q,Pw]=q2 at afy;obtain⟨z,HJ,gt,awo⟩:=afw.o;have oC:=e7.o.1;obtain⟨p,aP⟩:∃p,X[y]? =A p:=⟨_,eA G⟩;have um:=e7.o.2.2.1 p (L9 aP);have Jn:fv*(j+1+1)=fv*(j+1)+fv:=Nat.mul_succ _ _;have xm:fv*(j+1)<=fv*13:=XV _ (g3 xA e7.o.2.2.2.2.2.2);have bU:IntKind.i64.wrap (z+p)=z+p:=o7 _ ⟨G,G⟩;have awp:z+p<=((fv*(j+1+1):Nat):Int):=by rw[Jn];omega
        have awq:fU<=z+p:=G;have Fj:aM (∀u,ae wr u->u.cell? (B dc 0)=A (E (A (B eX 0)) N N)/\u.cell? (B eX x)=A (r c z)/\u.cell? (B eX y)=A (r c p)):=λu Z=>by
         have e:=HJ.aq Z;refine⟨(HO.k8.aq Z).cell 0,?_,?_⟩
         ·rw[e.cell,kd _ _ _ (by rw[gN];omega),Mg]
         ·rw[e.cell,kd _ _ _ (by rw[gN];omega),List.getElem_set_ne (h8 awm)];rw[eA G] at aP;rw[eT aP]
        clear fO oC;gi_wp2_with fail;refine jb afy.o λdV aX=>?_;gi_wp2_with fail;refine F3 10 (λu Z=>Fj.o u (aX.next' Z)) λcz hu ax=>?_;have a4:=HJ.aq (aX.next' hu);have eF:=a4.free x (.inr (cQ _));have Pv:=I ((CX.o.trans (Kept.bg (aX.next' hu))).setCell (S:=λk=>k=eX) (p:=B eX x) rfl (r c (z+p)));have awr:=I (show∃VJ,V (cz.setCell (B eX x) (r c (z+p))) eX (c6 c (X.set x VJ)) 3 (0,0)/\fU<=VJ/\VJ<=((fv*(j+1+1):Nat):Int) from⟨z+p,by
         have h:=a4.set x (r c (z+p))
         rwa[tO,QE] at h,awq,awp⟩)
        repeat first|refine fS ?_|refine ea ?_
        refine jG 10 (cz.setCell (B eX x) (r c (z+p))) ?_;refine fc ?_;gi_wp2_with fail;go_roundw
        ·exact⟨j+1,q2,G,rfl,by go_num,Pv,awr⟩
        ·simp[cu];omega
       ·obtain rfl:j=w2.length:=G;obtain⟨z,HJ,gt,awo⟩:=afw.o;have oC:=e7.o.1;have wC:=HJ.cell x;rw[kd _ _ _ (by rw[gN];omega),Mg] at wC;have rz:wr.cell? (B dc 0)=A (E (A (B eX 0)) N N):=HO.k8.cell 0;have Px:Kids b2 wr ab C pre.length f aj:=KU.o.1.dy (CX.o.block ab KU.o.1.map.lt (λe:ab=eX=>by
         obtain⟨eJ,R,q1,_⟩:=KU.o.1.map;rw[e,show d9.heap[eX]? =_ from e7.o.2.1] at q1;cases q1)) (λk cs fr K aO=>CX.o.block k aO.lt (λe:k=eX=>by have:=j1.low;omega))
        have VK:=(fI.bg (bB:=b2) (be:=λk=>k≠ab) (S:=sH gs eX) CQ).trans (fI.s' CX.o (.inr rfl) e7.o.2.1);obtain⟨ja,fO,fD,iU⟩:=j6.VA;have HQ:V wr gs (c6 c ja) 2:=CX.o.aH fD (λe:gs=eX=>j1.low.2.2.2 e);have jT:∃X,X.length=N/\V wr eX (c6 c X) 3 (0,0)/\(∀x∈X,0<=x/\x<=((12*13^(pre.length+1):Nat):Int))/\∀m∈M,∃y,X[m.v.toNat]? =A y/\1<=y:=by
         have AR:12*13^(pre.length+1)=fv*13:=by rw[e7.o.2.2.2.2.2.1,Nat.pow_succ,Nat.mul_assoc]
         have wT:fv*(w2.length+1)<=fv*13:=XV _ (g3 xA e7.o.2.2.2.2.2.2);refine⟨X.set x z,by rw[gN];exact oC,HJ,λy az=>?_,λm hm=>?_⟩
         ·rw[AR];rcases QA az with h|h
          ·have:=e7.o.2.2.1 y h;omega
          ·omega
         ·obtain⟨y,q1,q2⟩:=e7.o.2.2.2.1 m hm;by_cases e:m.v.toNat=x
          ·have bm:=e7.o.2.2.2.2.1;rw[e,bm] at q1;exact⟨z,by rw[e,tJ G],bI (eT q1)⟩
          ·exact⟨y,by rw[uM (h8 e)];exact q1,q2⟩
        have afz:=HQ.cell x;rw[kd _ _ _ G] at afz;generalize ja[x]'G=eD at afz;have aFq:=HQ.free x (.inr (cQ _));have lM:wr.cell? (B b_ 0)=A (J be 0):=HO.k7.cell 0;have VD:wr.cell? (B be 4)=A (E (A (B gs 0)) N N):=HO.pu.cell 4;have aws:ab≠gs:=λe=>by
         obtain⟨eJ,R,q1,_⟩:=Px.map;rw[e,show wr.heap[gs]? =_ from HQ] at q1;cases q1
        obtain⟨iv,lK⟩:=al (if z=0 then wr.setCell (B gs x) (r c q) else wr);have yg:=I (show fI b2 (λk=>k≠ab) (sH gs eX) W iv/\sI b2 cJ iv M N ab gs eX C (pre++[(x:Int)])/\Kids b2 iv ab C pre.length f aj by
         have md:(pre++[(x:Int)]).length=pre.length+1:=a3;by_cases b5:z=0
         ·rw[lK,if_pos b5];obtain⟨jJ,p1,p2,e8⟩:=jT;have afA:=Px.dy (mS:=wr.setCell (B gs x) (r c q)) (d7 _ _ _ _ (show ab≠gs from aws)) (λk cs fr K _=>d7 _ _ _ _ (show k≠gs by have:=j1.low;omega));have afB:=VK.set (p:=B gs x) HQ (.inl rfl) (r c q);refine⟨afB,⟨bS.kept.trans afB,⟨ja.set x q,by rw[gN];exact fO,by have h:=HQ.set x (r c q);rwa[tO] at h,λm hm=>?_⟩,⟨jJ,p1,p2.gr _ _ (λe:eX=gs=>j1.low.2.2.2 e.symm),by rw[md];exact e8⟩,f,aj,afA.mono G⟩,afA⟩;rw[uM (λe=>?_)]
          ·exact iU m hm
          ·obtain⟨y,q1,q2⟩:=e7.o.2.2.2.1 m hm;have bm:=e7.o.2.2.2.2.1;rw[<-e,bm] at q1;have:=eT q1;omega
         ·rw[lK,if_neg b5];exact⟨VK,⟨bS.kept.trans VK,⟨ja,fO,HQ,iU⟩,by rw[md];exact jT,f,aj,Px.mono G⟩,Px⟩)
        by_cases b5:z=0
        focus
         rw[if_pos b5] at lK;have yU:=I lK;subst b5;clear oC fO lK;gi_wp2_with fail;rw[<-yU.o]
        rotate_left
        focus
         rw[if_neg b5] at lK;have yU:=I lK;clear oC fO lK;gi_wp2_with fail;rw[<-yU.o]
        all_goals
         have tv:=j1.a_ yg.o.2.1.kept;have afC:=H.o.1.a_ (bu.bg (qI.o.trans (yg.o.2.1.kept.below (g3 qI.o.size q_.o) qI.o.size (λk K=>⟨λh=>h.elim (λe=>by have:=go.o;omega) (λe=>by have:=go.o;omega),bI go.o⟩))));have Fk:aM (∀u,ae iv u->u.cell? (B bk 0)=A (J af 0)/\u.cell? (B b_ 0)=A (J be 0)/\u.cell? (B be 1)=A (E (A (B bv 0)) N N)/\u.cell? (B bv x)=A (r c dG)):=λu Z=>by
          have q:=tv.a_ (fI.bg (bB:=b2) (be:=λ_=>False) Z);refine⟨q.k3.cell 0,q.k7.cell 0,q.pu.cell 1,?_⟩;rw[q.kC.cell,kd _ _ _ (bI j1.tree.yS)];have:=Og;rw[eA (bI j1.tree.yS)] at this;rw[eT this]
         refine F3 14 Fk.o λdV dz ax=>?_;repeat first|refine fS ?_|refine ea ?_
         refine Bk (i:=9) (k:=13) bq ?_ ?_
         focus
          refine e3 197 #[J af 0,r c dG] (rN.o dV (afC.a_ (bu.bg dz))) ?_;rintro e cz ⟨rfl,a5⟩;have iG:=I (dz.next' a5);refine⟨_,rfl,λ_=>Fk.o cz iG.o,?_⟩;simp only[bN,bM,bO];have ax:=Fk.o cz iG.o;repeat refine ea ?_
          obtain⟨hI,kW⟩:=al (cz.alloc (an #[r c 0,r c 0,r c 0] 57));obtain⟨rX,A0⟩:=al cz.heap.size;have l5:=I (show ae iv hI/\V hI rX #[r c 0,r c 0,r c 0] 57 (0,0)/\iv.heap.size<=rX from⟨iG.o.next' (by rw[kW];exact fb),by rw[kW,A0];exact V.new _ _ _ _,by rw[A0];exact iG.o.size⟩);refine kr 13 (J rX 0) hI ?_ (he:=by rw[kW,A0];go_simp) (ak:=λ_=>Fk.o hI l5.o.1);clear kW A0
         rotate_left
         focus
          obtain⟨cz,hu⟩:=al (dV.alloc (an #[r c 0,r c 0,r c 0] 57));obtain⟨rX,A0⟩:=al dV.heap.size;have iG:=I (show ae iv cz/\V cz rX #[r c 0,r c 0,r c 0] 57 (0,0)/\iv.heap.size<=rX from⟨dz.next' (by rw[hu];exact fb),by rw[hu,A0];exact V.new _ _ _ _,by rw[A0];exact dz.size⟩);refine gD (J rX 0) cz ⟨λ_=>Fk.o cz iG.o.1,?_⟩ (he:=by rw[hu,A0];go_simp);clear hu A0;simp only[bN,bM,bO];refine dJ 9 ?_;refine e3 197 #[J af 0,r c dG] (rN.o cz (afC.a_ (bu.bg iG.o.1))) ?_;rintro e hI ⟨rfl,ck⟩;have l5:=I (show ae iv hI/\V hI rX #[r c 0,r c 0,r c 0] 57 (0,0)/\iv.heap.size<=rX from⟨iG.o.1.next' ck,iG.o.2.1.aq ck,iG.o.2.2⟩);refine⟨_,rfl,λ_=>Fk.o hI l5.o.1,?_⟩;simp only[bN,bM,bO];have ax:=Fk.o hI l5.o.1;repeat refine ea ?_
         rotate_left;all_goals
          obtain⟨eo,iz⟩:=al (((hI.setCell (B rX 0) (r c rW.1)).setCell (B rX 1) (r c rW.2.1)).setCell (B rX 2) (r c rW.2.2));have k0:=l5.o.2.1;have d0:=k0.cell 0;have d1:=k0.cell 1;have d2:=k0.cell 2;have j5:=k0.free 0 (.inr (cQ _));have f6:=k0.free 1 (.inr (cQ _));have eF:=k0.free 2 (.inr (cQ _));have HR:=I (show ae iv eo/\∃cs,V eo rX cs 57 (0,0)/\cs[0]? =A (r c rW.1) from⟨by
           rw[iz];exact((l5.o.1.setCell (p:=B rX 0) l5.o.2.2 _).setCell (p:=B rX 1) l5.o.2.2 _).setCell (p:=B rX 2) l5.o.2.2 _,by
           rw[iz];exact⟨_,((k0.set 0 (r c rW.1)).set 1 (r c rW.2.1)).set 2 (r c rW.2.2),rfl⟩⟩)
          refine jG 14 eo ?_ (he:=by rw[iz];go_simp);clear iz;repeat refine ea ?_
          refine fc ?_;have hst:=yg.o.2.1.below HR.o.1;have VL:=yg.o.1.trans (fI.bg HR.o.1);cases hb:Mq with
          |false=>
           have cH:=I (show KeepsFrom cJ.heap.size W eo/\fI b2 (λk=>b2+2<=k) (sH gs eX) W eo/\sI b2 cJ eo M N ab gs eX C (pre++[(x:Int)]) from⟨by rw[<-q_.o];exact VL.keeps j1.low.1,VL.Vx (λk K=>by have:=j1.low;omega),hst⟩);gi_wp2_with fail;exact cH.o
          |true=>
           have Z:=hit hb;have Py:=j1.tree.hS _ Z.1;have awt:=j1.a_ hst.kept;have Pz:Kids b2 eo ab C pre.length f aj:=yg.o.2.2.dy (HR.o.1.block ab yg.o.2.2.map.lt) (λk cs fr _ aO=>HR.o.1.block k aO.lt);have adK:=hst.kept.size;have afD:aM (∀u,ae eo u->u.cell? (B b_ 0)=A (J be 0)/\u.cell? (B be 3)=A (.map (A ab))/\u.cell? (B rX 0)=A (r c rW.1)/\(l' 282 (.map (A ab)) (r c rW.1) ao).run aa u= .ok ((f rW.1).getD (E T 0 0)) u):=λu Z=>by
            have q:=awt.a_ (fI.bg (bB:=b2) (be:=λ_=>False) Z);have q2:=Pz.dy (mS:=u) (Z.block ab Pz.map.lt) (λk cs fr _ aO=>Z.block k aO.lt);obtain⟨cs,br,a4⟩:=HR.o.2;exact⟨q.k7.cell 0,q.pu.cell 3,by rw[(br.aq Z).cell];exact a4,q2.look ⟨G,G⟩⟩
           have awu:b2<=eo.heap.size:=bI q_.o;have nm:=e7.o.2.2.2.2.2.2;gi_wp2_with fail;refine F3 16 afD.o λv1 h5 ax=>?_;repeat first|refine fS ?_|refine ea ?_
           have qr:=Pz.dy (mS:=v1) (h5.block ab Pz.map.lt) (λk cs fr _ aO=>h5.block k aO.lt);obtain⟨v2,lw⟩:=al (v1.alloc (an #[r c x] 3));obtain⟨ca,rx,r7,ml,iq,yW,VM,wR,E3⟩:=qr.push (cM awu h5.size) j1.low.1 VF Z.2 ⟨bI Py,bI Py⟩ G lw;have a5:=dx lw;have Ag:=I (h5.next' a5);refine kr 14 (E (A (B v1.heap.size 0)) 1 1) v2 ?_ (he:=by rw[lw];go_simp) (ak:=λ_=>afD.o v2 Ag.o);refine dJ 15 ?_;refine tP (ca:=ca) (D:=rx) rfl rfl rfl (by rfl) (.tmp 135) (.tmp 137) _ _ rfl ml ⟨λ_=>?_,?_⟩
           ·have q:=j1.a_ ((hst.kept.trans (fI.bg (bB:=b2) (be:=λk=>k≠ab) (S:=sH gs eX) h5)));obtain⟨cs,br,a4⟩:=HR.o.2;have en:=br.aq h5;have p':∀{j:Nat} {cs:Array ac} {t:cY} {fr:Nat×Nat},V v1 j cs t fr->t≠3->V rx j cs t fr:=λav ht=>(wR _ _ _ _ av (λ_=>ht)).trans av;exact⟨(p' q.k7 bj).cell 0,(p' q.pu bj).cell 3,by rw[(p' en bj).cell];exact a4,(qr.map.dy E3).ae6 ⟨bI Py,bI Py⟩⟩
           simp only[bN,bM,bO];refine jG 16 r7 ?_;refine fc ?_;have VN:fI b2 (λk=>k≠ab) (sH gs eX) W r7:=VL.trans ((fI.bg h5).trans (VM.more λ_ h=>h.elim));refine⟨by rw[<-q_.o];exact VN.keeps j1.low.1,VN.Vx (λk K=>by have:=j1.low;omega),?_⟩;obtain⟨_,⟨awv,VO,PA,aww⟩,⟨jJ,afE,VP,afF⟩,_⟩:=hst.below h5;obtain⟨Iy,R',No⟩:=yW;exact⟨bS.kept.trans VN,⟨awv,VO,(VM.cells _ _ _ _ PA (λh=>h) (λ_=>bj)).trans PA,aww⟩,⟨jJ,afE,(VM.cells _ _ _ _ VP (λh=>h) (λh=>by have:=j1.low;omega)).trans VP,afF⟩,Iy,R',by simpa using No⟩
    case done=>
     rintro aF ce W fh rfl bS ly;have hf:=j1.a_ bS.kept;have lM:W.cell? (B b_ 0)=A (J be 0):=hf.k7.cell 0;gi_wp2_with fail;refine vc (ai:=cJ.heap.size) a3 _ _ ⟨⟨aF,rfl,fh,ly,λdS h=>by cases h⟩,trivial⟩ λD eQ fi=>?_;obtain⟨ja,fO,fD,iU⟩:=bS.VA;obtain⟨f,aj,dQ⟩:=bS.K5;have ti:=j1.low;have h0:=q_.o;refine⟨_,Md rfl _ _ _,be,cx,c2,C,ab,ja,f,aj,rfl,⟨⟨bz,bv,gs,eQ.aH hf.pu,eQ.aH fD⟩,fO,iU,(jv rfl hf.sX).a_ eQ,j1.tree.hS,j1.tree.nodup,dQ.map.dy (fi.block ab G),λk=>(jv rfl (dQ.Vz k)).a_ eQ,dQ.hS,λk=>?_⟩,?_⟩
     ·have:=dQ.dR k;have:=t6 N C j1.tree.nodup j1.tree.hS;have e:(zp C).length=C.length:=by unfold zp;rw[iT,ae3]
      omega
     ·exact(qI.o.trans (bS.kept.below (bI qI.o.size) qI.o.size (λk K=>⟨λh=>h.elim (λe=>by have:=go.o;omega) (λe=>by have:=go.o;omega),bI go.o⟩))).trans (fi.mono qI.o.size)
theorem awx {be:Nat} {ja:List Int} (h:K6 w be N M cx c2 C ab ja f aj) {v z:Int} (aK:0<=v/\v<N) (b5:ja[v.toNat]? =A z):
 aE aa 182 #[J be 0,r c v] w λe D=>e=au (r c z)/\D=w:=by
 obtain⟨bz,bv,gs,h1,h2⟩:=h.pu;obtain⟨x,rfl⟩:=r6 aK.1;have UG:(x:Int)<N:=aK.2;have j7:(0:Int)<=x:=aK.1;have gR:w.cell? (B be 4)=A (E (A (B gs 0)) N N):=h1.cell 4;have d:=h2.cell x;have aw:=h.len;rw[ko,eA G] at b5;rw[kd _ _ _ G,eT b5] at d;clear h h1 h2 aK b5 aw;go_in;go_wp2_with fail;go_ret;exact⟨rfl,rfl⟩
theorem awy {ai:Nat} (h:V w ai #[r c k] 3) (m:lk) N:
 aE aa 184 #[aZ #[r c m.v,E (A (B m.d1 0)) N N,E (A (B m.a1 0)) N N,E m.ir m.b2 m.aV,E (A (B m.d2 0)) N N,E (A (B m.a2 0)) N N,E m.iO m.cm m.bb],J ai 0] w λe D=>e=au (aA (m.v==(k:Int)))/\ae w D:=by
 obtain⟨q,aO⟩:∃q,(m.v==(k:Int))=q:=⟨_,rfl⟩;rw[aO];have hb:=(bx w.heap.size w).alloc (bY _) (an #[r c m.v,E (A (B m.d1 0)) N N,E (A (B m.a1 0)) N N,E m.ir m.b2 m.aV,E (A (B m.d2 0)) N N,E (A (B m.a2 0)) N N,E m.iO m.cm m.bb] 288);have R:=aR (h.aq hb) 0;have bP:=I hb;clear h hb;go_in;go_wp2_with fail;go_ret;exact⟨rfl,bP.o⟩
theorem awz (h:l8 am w v M N) (dU:M.length<=12) {ai:Nat} (cd:V w ai #[r c k] 3):
 aE aa 259 #[v,.func (.func 184) #[] #[J ai 0]] w λe D=>∃i,e=au (r c i)/\((0<=i/\∃m∈M,m.v=k)\/(i=-1/\∀m∈M,m.v≠k))/\ae w D:=by
 obtain⟨a,R,rfl,ha⟩:=h.form;have H:=I h;have dM:=I ha;have uW:=I cd;clear h ha cd;go_in;go_wp2_with fail;go_loopw [8] (λi wr=>∃(j:Nat),j<=M.length/\i=r c j/\aM (ae w wr)/\aM (∀m∈M.take j,m.v≠(k:Int))) (λi _=>M.length-(cu i).toNat)
 ·exact⟨0,G,rfl,I (bx _ _),I (λ_ h=>by simp at h)⟩
 ·obtain⟨j,av,rfl,bP,c9⟩:=hrel;by_cases a0:j<M.length
  ·have ie:(j:Int)<M.length:=G;have ku:=ew j;obtain⟨g,rfl⟩:=dM.o G;obtain⟨q0,q1,q2,bm,cZ,ek,jg⟩:=(H.o.below bP.o).at a0;have eW:=I (show M.take (j+1)=M.take j++[M[j]] from(aiG a0).symm);have cH:=I (gB a0);have oW:=I (awy (uW.o.aq bP.o) M[j] N);generalize M[j]=m at q0 q1 q2 bm cZ ek jg eW cH oW;dsimp only[jA] at q0 q1 q2 bm cZ ek jg;clear a0;go_wp2_with fail;refine dl oW.o λay hb=>?_;have ft:=I (bP.o.next' hb);clear oW hb;cases aO:m.v==(k:Int) with
   |true=>
    have Az:=cH.o;go_wp2_with fail;go_ret;exact⟨_,rfl,.inl ⟨G,m,Az,by simpa using aO⟩,ft.o⟩
   |false=>
    have q_:aM (∀m∈M.take (j+1),m.v≠(k:Int)):=λzR hm=>by
     rw[eW.o] at hm;rcases fJ.1 hm with hm|hm
     ·exact c9.o zR hm
     ·rw[f2.1 hm];simpa using aO
    clear aO;go_wp2_with fail;go_roundw
    ·exact⟨j+1,G,by go_num,ft,q_⟩
    ·simp[cu];omega
  ·obtain rfl:j=M.length:=G;go_wp2_with fail;go_ret;have:=c9.o;rw[v3] at this;exact⟨_,rfl,.inr ⟨rfl,this⟩,bP.o⟩
theorem awA (h:l8 am w v M N) (dU:M.length<=12) {ai:Nat} (cd:V w ai #[r c k] 3):
 aE aa 183 #[v,.func (.func 184) #[] #[J ai 0]] w λe D=>∃b,e=au (aA b)/\(b=ad↔∃m∈M,m.v=k)/\ae w D:=by
 have C:=I (awz h dU cd);clear h cd;go_in;go_wp2_with fail;refine C.o.mono ?_;rintro e ay ⟨i,rfl,ag,hb⟩;have bP:=db ag hb;clear ag hb C;by_cases h0:0<=i
 ·go_wp2_with fail;go_ret;refine⟨ad,rfl,⟨λ_=>?_,λ_=>rfl⟩,bP.o.2⟩;rcases bP.o.1 with h|h
  ·exact h.2
  ·omega
 ·have h1:decide (0<=i)=ao:=decide_eq_false h0;go_wp2_with fail;go_ret;refine⟨ao,rfl,⟨gj,λ⟨m,hm,e⟩=>?_⟩,bP.o.2⟩;rcases bP.o.1 with h|h
  ·omega
  ·exact absurd e (h.2 m hm)
structure Fl (am:Nat) (bH W:O) (bh bF:Nat) (be:Nat) (L:List Int) (h:Int->Int) (U:Int):Prop where
 rd:V W bh #[.func (.func 182) #[J be 0] #[]] 285
 nh:V W bF #[r c U] 3
 ok:U=-1\/(U∈L/\0<h U)
 below:bQ am bH W
theorem Fl.dy {bH:O} {bh be:Nat} {h:Int->Int} {U:Int} (bS:Fl am bH Q bh bF be L h U) (ah:∀k cs t fr,V Q k cs t fr->ai.heap[k]? =Q.heap[k]?) (hb:bQ am bH ai):Fl am bH ai bh bF be L h U:=
 ⟨(ah _ _ _ _ bS.rd).trans bS.rd,(ah _ _ _ _ bS.nh).trans bS.nh,bS.ok,hb⟩
theorem afG (m:Nat) (hm:3<=m) {be hG:Nat} {cP:Option cp} {cC:Nat} (aw:L.length<=1000) (hy:cR w (E cP L.length cC) L) (cd:V w hG #[E cP L.length cC] 41) (ar:∀x∈L,0<=x) (h:Int->Int)
 (fH:∀u,ae w u->∀x∈L,aE aa 182 #[J be 0,r c x] u λe D=>e=au (r c (h x))/\D=u):
 ge dY m aa 180 #[.func (.func 258) #[] #[J hG 0],.func (.func 182) #[J be 0] #[]] w λe D=>∃U,e=au (r c U)/\(U=-1\/(U∈L/\0<h U))/\ae w D:=by
 have lv:1<=m:=G;have E3:1<=m-1-1:=G;obtain⟨bh,dW⟩:=al w.heap.size;obtain⟨bF,eV⟩:=al (bh+1);obtain⟨ay,bA⟩:=al (w.alloc (an #[.func (.func 182) #[J be 0] #[]] 285));obtain⟨aJ,cK⟩:=al (ay.alloc (an #[r c (-1)] 3));have aX:=dx bA;have g4:ay.heap.size=bF:=by rw[bA,eV,dW];simp
 have a5:=dx cK;have hK:aJ.heap.size=bh+2:=by rw[cK];simp[g4,eV]
 have xu:Fl w.heap.size w aJ bh bF be L h (-1):=⟨(show V ay bh _ _ _ by rw[bA,dW];exact V.new _ _ _ _).below a5 G,by rw[cK,<-g4];exact V.new _ _ _ _,.inl rfl,aX.next' a5⟩;have dN:=qV bA cK dW eV g4;have bZ:=I xu;have cj:=I hK;have e7:=I hy;have bP:=I cd;have dd:=I fH;have cW:=I ar;clear hy cd fH ar bA cK aX a5 g4 hK xu dW eV;refine sL func180 rfl trivial ?_ rfl;simp only[ntmps180,g0,fV,gp,gA,g1,gI,gJ,gK,gL,f1,fW];gi_wp2_with fail;rw[<-dN.o.1,<-dN.o.2.2.1,<-dN.o.2.2.2.1,<-dN.o.2.1];refine Vv lv (gf:=258) (lb:=#[J hG 0]) rfl (fg func258 bq rfl) (jk:=iI) (ln:=λQ C=>ae Q C) (eb:=y8 w.heap.size hG) (Fi:=λpre x=>pre++[x]<+:L) (Y:=λce _=>ce=L)
  (λgd bG W hb _ ei h0=>(ac5 (m-1) G gd hG w.heap.size w cP cC L aw (λu Z=>e7.o.a_ (bu.bg Z)) bG ei W (bZ.o.below.trans (hb.mono bZ.o.below.size)) (cM bZ.o.below.size hb.size) ((bP.o.aq bZ.o.below).below hb (bP.o.aq bZ.o.below).lt) h0).mono λe dI h=>⟨h.1,_,rfl,h.2⟩)
  (λQ ai k o h _ aQ _=>(h.block k (gU.1 aQ).1).trans aQ) y8.trans
  (λW o dt aQ ah=>⟨vx (bx _ _) (g3 cj.o dN.o.2.2.1),jr (by have:=bP.o.lt;have:=cj.o;have:=dN.o.2.2.1;omega)⟩) (λ_=>rfl)
  (λpre W=>∃U,Fl w.heap.size w W bh bF be L h U)
  (λs Q C ⟨U,q⟩ hb=>⟨U,q.dy (λk cs t fr K=>hb.block k K.lt) (q.below.trans (hb.mono q.below.size))⟩)
  (λs Q o dt ⟨U,q⟩ aQ ah=>⟨U,q.dy (λk cs t fr K=>rJ aQ ah K) (vx q.below (g3 cj.o dN.o.2.2.1))⟩)
  (λaI hV=>⟨_,bZ.o.dy (λk cs t fr K=>hV.block k K.lt) (bZ.o.below.trans (hV.mono bZ.o.below.size))⟩) (λce Q o dt h _ _=>h) ?a1 ?assign ?body ?done
 case assign=>
  intro l x W aT dQ;dsimp only[iI];gi_wp2;exact dQ
 case body=>
  rintro l pre x W ⟨U,bS⟩ aP a0;have afH:x∈L:=aP.subset (fJ.2 (.inr (f2.2 rfl)));have gR:W.cell? (B bh 0)=A (.func (.func 182) #[J be 0] #[]):=bS.rd.cell 0;have gl:W.cell? (B bF 0)=A (r c U):=bS.nh.cell 0;have QS:=bS.nh.free 0 (.inr (cQ _));have Fm:=I (dd.o W bS.below x afH);have aB:=cj.o;have d6:=dN.o.2.2.1;have gm:=dN.o.2.2.2.1;have VQ:=I (show KeepsFrom aJ.heap.size W W/\y8 w.heap.size hG W W/\∃U,Fl w.heap.size w W bh bF be L h U from⟨aiC _ _,⟨bx _ _,rfl⟩,U,bS⟩);have CH:=I (λ(aP:0<h x)=>show KeepsFrom aJ.heap.size W (W.setCell (B bF 0) (r c x))/\y8 w.heap.size hG W (W.setCell (B bF 0) (r c x))/\∃U,Fl w.heap.size w (W.setCell (B bF 0) (r c x)) bh bF be L h U from⟨⟨a3,λk o K aQ ah=>(d7 _ _ _ _ (show k≠bF by omega)).trans aQ⟩,⟨(bx _ _).setCell (p:=B bF 0) (show w.heap.size<=bF by omega) _,d7 _ _ _ _ (show hG≠bF by have:=bP.o.lt;omega)⟩,x,bS.rd.gr _ _ (show bh≠bF by omega),bS.nh.set 0 _,.inr ⟨afH,aP⟩,bS.below.setCell (p:=B bF 0) (show w.heap.size<=bF by omega) _⟩);have bK:=bS.ok;have ps:=I (λ(ar:U∈L)=>dd.o W bS.below U ar);clear bS aP a0 aB d6 gm;generalize aC:h x=n at Fm CH;by_cases bB:0<n
  ·replace CH:=I (CH.o bB)
   rcases bK with rfl|⟨afI,nr⟩
   ·gi_wp2_with fail;refine jb Fm.o λeM aO=>?_;subst eM;gi_wp2_with fail;refine⟨λ_ h=>(by cases h),?_⟩;gi_wp2_with fail;exact CH.o
   ·replace ps:=I (ps.o afI)
    have ml:¬U<0:=bI (cW.o U afI);generalize h U=p at ps;clear nr;by_cases aFr:p<n
    ·gi_wp2_with fail;refine jb Fm.o λeM aO=>?_;subst eM;gi_wp2_with fail;refine jb ps.o λeM aO=>?_;subst eM;gi_wp2_with fail;refine⟨λ_ h=>(by cases h),?_⟩;gi_wp2_with fail;exact CH.o
    ·by_cases awB:n=p
     ·subst awB;by_cases yK:x<U
      ·gi_wp2_with fail;refine jb Fm.o λeM aO=>?_;subst eM;gi_wp2_with fail;refine jb ps.o λeM aO=>?_;subst eM;gi_wp2_with fail;refine jb ps.o λeM aO=>?_;subst eM;gi_wp2_with fail;exact CH.o
      ·gi_wp2_with fail;refine jb Fm.o λeM aO=>?_;subst eM;gi_wp2_with fail;refine jb ps.o λeM aO=>?_;subst eM;gi_wp2_with fail;refine jb ps.o λeM aO=>?_;subst eM;gi_wp2_with fail;exact VQ.o
     ·gi_wp2_with fail;refine jb Fm.o λeM aO=>?_;subst eM;gi_wp2_with fail;refine jb ps.o λeM aO=>?_;subst eM;gi_wp2_with fail;refine jb ps.o λeM aO=>?_;subst eM;gi_wp2_with fail;exact VQ.o
  ·have yt:dr=Value.tuple #[]:=rfl;gi_wp2_with fail;refine jb Fm.o λeM aO=>?_;subst eM;gi_wp2_with fail;exact VQ.o
 case done=>
  rintro aF ce W fh rfl ⟨U,bS⟩ ly;have gl:W.cell? (B bF 0)=A (r c U):=bS.nh.cell 0;have afJ:=I bS;clear bS;gi_wp2_with fail;refine vc (ai:=aJ.heap.size) a3 _ _ ⟨⟨aF,rfl,fh,ly,λdS h=>by cases h⟩,trivial⟩ λD eQ fi=>?_;exact⟨_,Md rfl _ _ _,U,rfl,afJ.o.ok,afJ.o.below.trans (fi.mono bZ.o.below.size)⟩
def VR (w:O) (b:Nat):Nat:=match w.cell? (B b 0) with
 |some (r _ k)=>k.toNat
 |_=>0
theorem afK {b:Nat} (h:V w b #[r c k] 3):VR w b=k:=by
 unfold VR;rw[show w.cell? (B b 0)=A (r c k) from h.cell 0];rfl
theorem awC (L:List Int) (h:L.length<N):∃x:Nat,x<N/\(x:Int)∉L:=by
 by_cases q:∃x:Nat,x<N/\(x:Int)∉L
 ·exact q
 ·exfalso;have aC:((m8 N).map λ(i:Nat)=>(i:Int)).Nodup:=Qy.2 (List.nodup_range.imp λh e=>h G);have:=aC.length_le_of_subset (l₂:=L) λx ak=>by
   obtain⟨i,ag,rfl⟩:=jB.1 ak;by_cases h:(i:Int)∈L
   ·exact h
   ·exact absurd ⟨i,tI.1 ag,h⟩ q
  rw[iT,tK] at this;omega
theorem awD (hf:jz g N) (h:eq w af g) (dU:l8 am w v M N) (ua:M.length<=12) (zq:∀m∈M,0<=m.v/\m.v<N) (awE:M.length<N) (ar:U<N):
 aE aa 99 #[J af 0,v,r c U] w λe D=>∃x:Nat,e=au (r c x)/\x<N/\(∀m∈M,m.v≠x)/\ae w D:=by
 have g_:=@hJ aa;obtain⟨c0,j7,j8⟩:=awC (M.map lk.v) (by rw[iT];exact awE);have DK:∀m∈M,m.v≠c0:=λm hm e=>j8 (e▸QH hm);have HG:=I (im.1 (av4 4 G hf h dU ua zq ar));have vB:=hf.jo;obtain⟨aN,dw,rfl,_⟩:=dU.form;go_in;go_wp2_with fail;refine HG.o.mono ?_;rintro e ay ⟨be,cx,c2,C,ab,ja,f,aj,rfl,l2,aX⟩;obtain⟨bz,bv,gs,awF,_⟩:=l2.pu;have bb:ay.cell? (B be 2)=A (E cx C.length c2):=awF.cell 2;have hP:∀u,ae ay u->∀x∈C,aE aa 182 #[J be 0,r c x] u λe D=>e=au (r c (ja[x.toNat]?.getD 0))/\D=u:=λu Z x ak=>by
  have yK:=l2.hS x ak;exact awx (l2.below Z) yK (by have:=l2.len;rw[eA G];rfl)
 have afd:=t6 N C l2.nodup l2.hS;go_wp2_with fail;refine dl (T7 cx C.length c2 ay) λaJ cK=>?_;have dT:=dx cK;have CO:=eK cK rfl;have bP:=I (im.1 (afG 3 G (be:=be) G (l2.ord.a_ (bu.bg dT)) CO (λx ak=>(l2.hS x ak).1) (λx=>ja[x.toNat]?.getD 0) (λu Z x ak=>hP u (dT.next' Z) x ak)));clear cK;go_wp2_with fail;refine bP.o.mono ?_;rintro e ba ⟨q,rfl,aO,ck⟩;obtain⟨dc,kX⟩:=al ba.heap.size;have dh:=db (dT.next' ck) (show ay.heap.size<=dc by rw[kX];exact(dT.next' ck).size);have me:∀y,ae ay (ba.alloc (an #[r c y] 3))/\V (ba.alloc (an #[r c y] 3)) dc #[r c y] 3:=λy=>⟨dh.o.1.next' (fb),by rw[kX];exact V.new _ _ _ _⟩;have Pk:=I kX;clear kX;rcases aO with rfl|⟨VS,zY⟩
 ·have tV:=I (show ae ay (ba.alloc (an #[r c 0] 3))/\V (ba.alloc (an #[r c 0] 3)) dc #[r c ((0:Nat):Int)] 3 (0,0) from me 0);have NJ:aM (∀j:Nat,j<0->∃m∈M,m.v=j):=λj h=>by omega
  go_wp2_with fail;rw[<-Pk.o];go_loopw [29] (λ_ wr=>∃k:Nat,k<=c0/\aM (ae ay wr/\V wr dc #[r c k] 3)/\aM (∀j:Nat,j<k->∃m∈M,m.v=j)) (λ_ wr=>c0-VR wr dc)
  ·exact⟨0,cQ _,tV,NJ⟩
  ·obtain⟨k,K,bZ,ld⟩:=hrel;have ov:=I (awA (dU.below (aX.next' bZ.o.1)) ua bZ.o.2);have Kp:=afK bZ.o.2;have awG:=I Kp;clear Kp;go_wp2_with fail;refine ov.o.mono ?_;rintro e bD ⟨b,rfl,hb,cT⟩;have k5:=bZ.o.2.aq cT;have rz:bD.cell? (B dc 0)=A (r c k):=k5.cell 0;have Be:=k5.free 0 (.inr (cQ _));have hd:=ig hb (bZ.o.1.next' cT) k5;have Fg:(k:Int)<=12:=G;have k0:=ew k;clear hb cT k5 ov;cases b with
   |true=>
    have pZ:=I (show ae ay (bD.setCell (B dc 0) (r c ((k:Int)+1)))/\V (bD.setCell (B dc 0) (r c ((k:Int)+1))) dc #[r c ((k+1:Nat):Int)] 3 (0,0) from⟨hd.o.2.1.setCell (p:=B dc 0) dh.o.2 _,hd.o.2.2.set 0 (r c ((k:Int)+1))⟩);obtain⟨m,hm,jT⟩:=hd.o.1.1 rfl;have AH:aM (∀j:Nat,j<k+1->∃m∈M,m.v=j):=λj av=>by
     by_cases e:j=k
     ·exact⟨m,hm,by rw[e];exact jT⟩
     ·exact ld.o j G
    have aFs:k≠c0:=λe=>DK m hm (by rw[jT,e]);clear hm jT;go_wp2_with fail;go_roundw
    ·exact⟨k+1,G,pZ,AH⟩
    ·rw[awG.o,afK pZ.o.2];omega
   |false=>
    go_wp2_with fail;go_ret;exact⟨k,rfl,G,λm hm e=>(by have:=hd.o.1.2 ⟨m,hm,e⟩;cases this),aX.next' hd.o.2.1⟩
 ·have PB:=l2.hS q VS;have Ul:¬q<0:=G;have tV:=I (show∃k:Int,(k=-1\/(k∈C/\0<ja[k.toNat]?.getD 0))/\kK c q=r c k/\ae ay (ba.alloc (an #[r c q] 3))/\∃y,y∈C/\0<ja[y.toNat]?.getD 0/\V (ba.alloc (an #[r c q] 3)) dc #[r c y] 3 (0,0) from⟨q,.inr ⟨VS,zY⟩,rfl,(me q).1,q,VS,zY,(me q).2⟩);go_wp2_with fail;rw[<-Pk.o];go_loopw [9] (λt wr=>aM (∃k:Int,(k=-1\/(k∈C/\0<ja[k.toNat]?.getD 0))/\t=r c k/\ae ay wr/\∃y,y∈C/\0<ja[y.toNat]?.getD 0/\V wr dc #[r c y] 3)) (λt _=>if cu t<0 then 0 else C.length-C.idxOf (cu t))
  ·exact tV
  ·obtain⟨k,K,rfl,oI,y,VI,mi,VT⟩:=hrel.o;have rz:wr.cell? (B dc 0)=A (r c y):=VT.cell 0;have Be:=VT.free 0 (.inr (cQ _));rcases K with rfl|⟨VU,jl⟩
   ·have dq:=ig (aX.next' oI) VI mi;go_wp2_with fail;go_ret;have HP:=l2.hS y dq.o.2.1;refine⟨y.toNat,by rw[aCn HP.1];rfl,G,λm hm e=>?_,dq.o.1⟩;have h1:=l2.zero m hm;have h2:=dq.o.2.2;rw[show m.v.toNat=y.toNat by omega] at h1;rw[h1] at h2;exact absurd h2 a3
   ·have aFt:=l2.hS k VU;have pa:¬k<0:=G;obtain⟨bD,gm⟩:=al (wr.setCell (B dc 0) (r c k));have cT:ae ay bD:=by rw[gm];exact oI.setCell (p:=B dc 0) dh.o.2 _
    have k5:V bD dc #[r c k] 3:=by rw[gm];exact VT.set 0 (r c k)
    have HS:=l2.below cT;obtain⟨ot,hs,K_⟩:∃ot hs,(f k).getD (E T 0 0)=E ot (aj k).length hs:=by
     obtain⟨a,R,e,_⟩:=HS.row k;exact⟨a,R,e⟩
    obtain⟨L,hL⟩:=al (aj k);have es:=HS.row k;rw[K_,<-hL] at es;have afL:=HS.K5 k;have iH:=HS.dR k;rw[<-hL] at K_ afL iH;obtain⟨bz,bv,gs,pu,_⟩:=HS.pu;have Fj:aM (∀u,ae bD u->u.cell? (B be 3)=A (.map (A ab))/\u.cell? (B dc 0)=A (r c k)/\(l' 282 (.map (A ab)) (r c k) ao).run aa u= .ok (E ot L.length hs) u):=λu Z=>⟨(pu.aq Z).cell 3,(k5.aq Z).cell 0,by
     have:=(HS.below Z).map.ae6 (k:=k) ⟨G,G⟩
     rwa[K_] at this⟩
    have cw:=I (cv cT (cv k5 (cv es (cv afL (cv iH (cv VU jl))))));have nX:=I gm;have awH:(if cu (r c k)<0 then 0 else C.length-C.idxOf (cu (r c k)))=C.length-C.idxOf k:=if_neg pa;have awI:C.idxOf k<C.length:=Ip VU;clear gm hL;go_wp2_with fail;rw[<-nX.o];refine pF 9 Fj.o λdV dz ax=>?_;repeat first|refine fS ?_|refine ea ?_
    refine dJ 6 ?_;refine e3 181 #[E ot L.length hs] (T7 ot L.length hs dV) ?_;rintro e cz ⟨rfl,hu⟩;have a5:=dx hu;have CO:=eK hu rfl;have iG:=I (dz.next' a5);have bf:=I (im.1 (afG 3 G (be:=be) (bI cw.o.2.2.2.2.1) (cw.o.2.2.1.a_ (bu.bg iG.o)) CO (λx ak=>(l2.hS x (cw.o.2.2.2.1 x ak).1).1) (λx=>ja[x.toNat]?.getD 0) (λu Z x ak=>hP u (cw.o.1.trans ((iG.o.next' Z).mono cw.o.1.size)) x (cw.o.2.2.2.1 x ak).1)));refine⟨_,rfl,λ_=>Fj.o cz iG.o,?_⟩;clear hu;simp only[bN,bM,bO];refine dJ 9 ?_;refine e3 180 #[.func (.func 258) #[] #[J dV.heap.size 0],.func (.func 182) #[J be 0] #[]] bf.o ?_;rintro e hI ⟨q2,rfl,Az,ck⟩;have l5:=I (iG.o.next' ck);refine⟨_,rfl,gj,?_⟩;simp only[bN,bM,bO];repeat refine ea ?_
    refine fc ?_;have pZ:=I (show∃k:Int,(k=-1\/(k∈C/\0<ja[k.toNat]?.getD 0))/\kK c q2=r c k/\ae ay hI/\∃y,y∈C/\0<ja[y.toNat]?.getD 0/\V hI dc #[r c y] 3 (0,0) from⟨q2,Az.imp id (λh=>⟨(cw.o.2.2.2.1 q2 h.1).1,h.2⟩),rfl,cw.o.1.trans (l5.o.mono cw.o.1.size),k,cw.o.2.2.2.2.2.1,cw.o.2.2.2.2.2.2,cw.o.2.1.aq l5.o⟩);have hm:(if cu (r c q2)<0 then 0 else C.length-C.idxOf (cu (r c q2)))<C.length-C.idxOf k:=by
     have:=awI;rcases Az with rfl|h
     ·show(if(-1:Int)<0 then 0 else _)<_;rw[if_pos G];omega
     ·have h1:=cw.o.2.2.2.1 q2 h.1;show(if q2<0 then 0 else C.length-C.idxOf q2)<_;split<;>omega
    have DX:=I hm;go_wp2_with fail;go_roundw
    ·exact pZ
    ·have h1:=DX.o;rw[<-awH] at h1;exact h1
theorem awJ (hf:jz g N) (b1:1<=N) {kn uA:Nat} {l:List Int} (fh:uz w kn uA l) (pa:1<=k) (Fg:k<=12) (dE:∀u,Kept (·=kn) w u->eq u af g):
 aE aa 52 #[J af 0,r c k,J kn 0] w λe D=>∃v L,e=au v/\cR D v L/\p8 N L/\1<=L.length/\L.length<=12/\Kept (·=kn) w D:=by
 obtain⟨eP,ag,fL,gi,gt⟩:=m6 wn;have vB:=hf.jo;have bZ:=jU ag fL gi gt;have gn:aM (∀u,Kept (·=kn) w u->aE aa 27 #[J af 0] u λe D=>e=au (r c N)/\D=u):=λu Z=>by rw[hf.nodes];exact l3 af g u (dE u Z)
 have dq:=db hf dE;have Vs:kn<w.heap.size:=by obtain⟨v,q1,_⟩:=fh;exact q1.lt
 have aFu:uA<w.heap.size:=by obtain⟨v,_,_,_,_,q,_⟩:=fh;exact q
 have GK:=I (show∃l,uz w kn uA l from⟨l,fh⟩);obtain⟨pv,wo⟩:∃z:Nat,z=min k N:=⟨_,rfl⟩;have tZ:(if N<k then(N:Int) else(k:Int))=(pv:Int):=by rw[wo];split<;>omega
 have PC:=I (show 1<=pv/\pv<=N/\pv<=12 by omega);have afM:=db (oG w w.heap.size 3 1) (l8.nil w.heap.size w N);clear wo;go_in;go_wp2_with fail;go_loopw [6,7] (λd_ GY wr=>∃(P:List Int) (M:List lk),P.length<=pv/\aM (wr.ownsRow w.heap.size 3 1 d_ P.length (P.flatMap ec))/\aM (l8 w.heap.size wr GY M N/\M.map lk.v=P)/\aM (p8 N P)/\aM (∃l,uz wr kn uA l)/\aM (Kept (·=kn) w wr)) (λd_ _ _=>pv-KM d_)
 ·exact⟨[],[],cQ _,I afM.o.1,I ⟨afM.o.2,rfl⟩,I ⟨QM,λ_ h=>(by cases h)⟩,GK,I (Kept.refl _ _)⟩
 ·obtain⟨P,M,dj,eH,eU,HG,wj,cw⟩:=hrel;obtain⟨a,R,rfl,_⟩:=qk eH.o;have VV:=I (gn.o _ cw.o);have aFv:(P.length:Int)<=12:=bI PC.o;have auB:(0:Int)<=P.length:=G;by_cases a0:P.length<pv
  ·have ie:(P.length:Int)<pv:=G;obtain⟨qJ,afN⟩:=wj.o;have xX:=avy qJ N (by obtain⟨_,_,_,_,_,_,q⟩:=afN;exact q) G;have ks:=I (aeO kn uA qJ N ⟨G,G⟩ _ afN);obtain⟨y,az⟩:∃y:Nat,vP qJ N=(y:Int):=⟨(vP qJ N).toNat,G⟩;rw[az] at xX ks;have pY:y<N:=G;go_wp2_with fail;refine eO VV.o ?_;go_wp2_with fail;refine eO VV.o ?_;go_wp2_with fail;refine ks.o.mono ?_;rintro e aJ ⟨rfl,xy,e6⟩;have Cd:=fB eH.o (λb e=>e6.block b (by obtain⟨_,_,q⟩:=di eH.o e;exact q.lt) (λa4:b=kn=>by obtain⟨q,_,_⟩:=di eH.o e;omega));have DW:=eU.o.1.dy (u:=aJ) (λb e=>e6.block b (by obtain⟨_,_,q⟩:=di eU.o.1.row e;exact q.lt) (λa4:b=kn=>by obtain⟨q,_,_⟩:=di eU.o.1.row e;omega)) (λb cs fr aO=>e6.block b aO.lt (λa4:b=kn=>by
    obtain⟨_,_,q,_⟩:=wj.o;subst a4;exact absurd (er aO q) bj))
   have mo:=cw.o.trans e6;have hlen:M.length=P.length:=by have:=congrArg pA eU.o.2;rwa[iT] at this
   have zq:∀m∈M,0<=m.v/\m.v<N:=λm hm=>HG.o.2 _ (by rw[<-eU.o.2];exact QH hm);have tz:=I (λh0:0<P.length=>awD dq.o.1 (dq.o.2 aJ mo) DW G zq (bI PC.o) pY);have fC:=qV Cd DW mo xy hlen;by_cases Cq:0<P.length
   focus
    replace tz:=I (tz.o Cq)
    have aFw:(0:Int)<P.length:=G;go_wp2_with fail;refine tz.o.mono ?_;rintro e bi ⟨x,rfl,HN,adU,c_⟩;have i9:=I (show x<N/\(x:Int)∉P/\ae aJ bi from⟨HN,λh=>by
     rw[<-eU.o.2] at h;obtain⟨m,hm,e⟩:=jB.1 h;exact adU m hm e,c_⟩)
    skip
   rotate_left
   focus
    have PD:P=[]:=Qx.1 G;obtain⟨x,ak⟩:=al y;obtain⟨bi,d6⟩:=al aJ;have i9:=I (show x<N/\(x:Int)∉P/\ae aJ bi from⟨G,by rw[PD];simp,by rw[d6];exact bx _ _⟩);rw[<-ak,<-d6];clear ak d6 PD
   rotate_left;all_goals
    obtain⟨Cd,DW,mo,xy,hlen⟩:=fC.o;obtain⟨HN,VW,c_⟩:=i9.o;obtain⟨bD,gm⟩:=al (bi.alloc (an #[r c x] 3));have cT:=dx gm;have JH:=eK gm rfl;have yf:=c_.next' cT;have dC:w.heap.size<=bD.heap.size:=g3 mo.size yf.size;have VX:=fB Cd (λb e=>yf.block b (by obtain⟨_,_,q⟩:=di Cd e;exact q.lt));obtain⟨QT,cG,awK,E8,HT,aFx,_⟩:=tU (P:=aa) w.heap.size 41 41 3 eP _ 1 8 nG bZ.o.1 bZ.o.2.1 bZ.o.2.2.1 bZ.o.2.2.2 rfl G _ P.length _ VX (E (A (B bi.heap.size 0)) 1 1) 1 [r c x]
     ⟨rfl,by simp[v7],_,1,rfl,bY _,by unfold ff;omega,λj u Z=>⟨_,0,rfl,by rw[jC,JH.cell,la];exact Z⟩⟩ (by unfold ff;omega) G dC
    have AX:bQ w.heap.size bD cG:=⟨HT.os,HT.tape,HT.output,HT.size,λb hb=>HT.block b G (λe=>by obtain⟨q,_,_⟩:=di VX e.symm;omega)⟩;have afO:∀{b:Nat} {cs:Array ac} {t:cY} {fr:Nat×Nat},V bD b cs t fr->t≠3->cG.heap[b]? =bD.heap[b]? :=λhb ht=>HT.block _ hb.lt (λe=>by obtain⟨_,_,q⟩:=di VX e.symm;exact ht (er hb q));have z2:l8 w.heap.size cG _ M N:=(DW.below yf).dy (λb e=>by obtain⟨_,_,q⟩:=di (DW.below yf).row e;exact afO q bj) (λb cs fr aO=>afO aO bj);obtain⟨gY,y'⟩:=al (cG.alloc (an #[r c x] 3));have km:=dx y';have k7:=eK y' rfl;have PE:bQ w.heap.size aJ gY:=((yf.mono mo.size).trans AX).trans (km.mono (cM dC AX.size));have Nx:=y0 mo PE;have awL:=I (avK dq.o.1 (dq.o.2 gY Nx) (L:=[(x:Int)]) ⟨A (B cG.heap.size 0),1,rfl,bY _,by unfold ff;omega,λi ag=>by
     have ve:i=0:=by have:i<1:=ag;omega
     subst ve;exact⟨cG.heap.size,0,_,_,_,rfl,k7,rfl⟩⟩ a3 (λz b5=>by rw[f2.1 b5];omega))
    have afP:=I awK;rw[gm] at afP;obtain⟨cP,cC,rfl,_⟩:=qk E8;have l6:=I (cv E8 (cv z2 (cv PE (cv km (cv xy (cv VW (cv HN (cv mo (cv hlen (show w.heap.size<=gY.heap.size from cM dC (cM AX.size km.size)))))))))));have Uz:=I y';clear gm y';go_wp2_with(at_builtin;refine uX rfl _ _ _ _ rfl afP.o ?_)
    rw[<-Uz.o];refine awL.o.mono ?_;rintro e sC ⟨v2,M2,rfl,afQ,afR,w3⟩;obtain⟨E8,z2,PE,km,xy,VW,HN,mo,hlen,dC⟩:=l6.o;have aFy:M2.length=1:=by have:=congrArg pA afR;rwa[iT] at this
    have afS:=(z2.below (km.next' w3));obtain⟨awM,iv,awN,awO,G7,_,vr⟩:=afS.push (afQ.avH G) afQ.ok G (cM dC w3.size);have xL:bQ w.heap.size aJ iv:=(PE.trans (w3.mono dC)).trans vr;have awP:iv.ownsRow w.heap.size 3 1 _ (P.length+1) _:=fB E8 (λb e=>by
     obtain⟨_,_,q⟩:=di E8 e;have Aa:=q.aq (km.next' w3);exact(G7.block b Aa.lt (λa4=>by obtain⟨_,_,q2⟩:=di afS.row a4.symm;exact absurd (er Aa q2) bj)).trans ((km.next' w3).block b q.lt))
    have awQ:=I awN;have vF:(P++[(x:Int)]).length=P.length+1:=a3;have awR:=I (show iv.ownsRow w.heap.size 3 1 (E cP (P.length+1) cC) (P++[(x:Int)]).length ((P++[(x:Int)]).flatMap ec) by rw[vF,w8];exact awP);have awS:=I (show l8 w.heap.size iv awM (M++M2) N/\(M++M2).map lk.v=P++[(x:Int)] from⟨awO,by rw[qc,eU.o.2,afR]⟩);have awT:=I (show p8 N (P++[(x:Int)]) from⟨A'.2 ⟨HG.o.1,a3,λy az z b5 e=>by rw[f2.1 b5] at e;exact VW (e▸az)⟩,λy az=>by
     rcases fJ.1 az with h|h
     ·exact HG.o.2 y h
     ·rw[f2.1 h];omega⟩)
    have Tj:=I (show∃l,uz iv kn uA l from⟨_,xy.kept (S:=λb=>w.heap.size<=b) ⟨xL.os,xL.tape,xL.output,xL.size,λb hb aB=>xL.block b G⟩ G G⟩);have awU:=I (y0 mo xL);go_wp2_with(at_builtin;refine uX rfl _ _ _ _ rfl awQ.o ?_)
    go_roundw
    ·exact⟨P++[(x:Int)],M++M2,by rw[vF];omega,awR,awS,awT,Tj,awU⟩
    ·simp[KM];omega
  ·have ie:¬(P.length:Int)<pv:=G;go_wp2_with fail;refine eO VV.o ?_;go_wp2_with fail;go_ret;exact⟨_,P,rfl,jv rfl eH.o,HG.o,bI PC.o,bI PC.o,cw.o⟩
def awV (F:Nat):Prop:=∀(w:O) (af N:Nat) (g:Raw),jz g N->1<=N->∀(kn uA:Nat) (l:List Int),uz w kn uA l->∀k:Nat,1<=k->k<=12->(∀u,Kept (·=kn) w u->eq u af g)->
 aE aa F #[J af 0,r c k,J kn 0] w λe D=>∃v L,e=au v/\cR D v L/\p8 N L/\1<=L.length/\L.length<=12/\Kept (·=kn) w D
theorem awW {fu:Int} (h:fu=0\/fu=1):∃F:Nat,(fu,it F)∈[((0:Int),it 51),(1,it 52)]/\(∀args w,(callFunc F args).run aa w= .ok (.enter F args) w)/\awV F:=by
 rcases h with rfl|rfl
 ·exact⟨51,a3,fg func51 bq rfl,λw af N g hf b1 kn uA l fh k h1 h2 aC=>im.1 (avB 6 G hf (aC w (Kept.refl _ _)) b1 fh h1 h2 aC)⟩
 ·exact⟨52,a3,fg func52 bq rfl,λw af N g hf b1 kn uA l fh k h1 h2 aC=>awJ hf b1 fh h1 h2 aC⟩
def awX (F:Nat):Prop:=∀(w:O) (af N:Nat) (g:Raw),jz g N->eq w af g->1<=N->∀R:Nat,1<=R->R<=256->
 aE aa F #[J af 0,r c R] w λe D=>∃v L,e=au v/\cR D v L/\L.length=N/\(∀x∈L,zk x)/\ae w D
theorem afT {a:Int} (h:-9223372036854775808<=a/\a<=9223372036854775807):zk a:=t5 h
theorem afU (h:∀x∈L,oP x) (K:k<L.length):-2147483648<=wI L k/\wI L k<=2147483647:=by
 have:=h _ (gB K);unfold oP at this;have e:wI L k=L[k]:=by unfold wI;rw[if_pos ⟨G,G⟩,ko,eA K];rfl
 rw[e];omega
theorem awY (f:Nat->Int×Int) {R aj C:Nat} (ah:R<=256) (cb:KR R aj C):∀x∈HL N f aj C,zk x:=λx ak=>by
 obtain⟨k,_,rfl⟩:=jB.1 ak;obtain⟨h1,h2,ap,bl⟩:=cb.facts;have key:∀(h:Fin N->Int) (m:Nat),1<=m->0<=sG ((lP ((pC N).map h)).getD (0,0)).1 ((lP ((pC N).map h)).getD (0,0)).2 m (h k)/\sG ((lP ((pC N).map h)).getD (0,0)).1 ((lP ((pC N).map h)).getD (0,0)).2 m (h k)<m:=λh m hm=>by
  cases he:lP ((pC N).map h) with
  |none=>
   have zQ:h k∈(pC N).map h:=jB.2 ⟨k,XX k,rfl⟩;cases aO:(pC N).map h with
   |nil=>rw[aO] at zQ;cases zQ
   |cons a b=>rw[aO] at he;cases he
  |some p=>
   have:=(aen (a:=p.1) (b:=p.2) he).2.1 (h k) (jB.2 ⟨k,XX k,rfl⟩);exact Pf this G
 have a1:=key (λk=>(f k).2) aj cb.pos;have a2:=key (λk=>(f k).1) C bl;unfold cellOf;refine afT ?_;generalize sG _ _ (aj:Int) (f k).2=p at a1⊢;generalize sG _ _ (C:Int) (f k).1=q at a2⊢;have cL:aj*C<=256:=G;have eI:((aj*C:Nat):Int)<=256:=G;rw[H8] at eI;have gu:p*C<=(aj:Int)*C:=aCf G G;have h9:0<=p*C:=QQ a1.1 G;have iJ:C<=256:=cM (aCi C cb.pos) cL;omega
theorem awZ {eh:Int} (h:eh=1\/eh=2):∃F:Nat,(eh,it F)∈[((0:Int),it 57),(1,it 58),(2,it 59)]/\(∀args w,(callFunc F args).run aa w= .ok (.enter F args) w)/\awX F:=by
 rcases h with rfl|rfl
 ·refine⟨58,a3,fg func58 bq rfl,λw af N g hf aC b1 R h1 h2=>?_⟩;have vB:=hf.jo;have e:g.nodes.toNat=N:=bI hf.nodes;have dj:=auW w af g aC hf.ok;rw[e] at dj;refine(im.1 (au3 6 G (A (B af 0)) R ⟨h1,h2⟩ w N _ dj G (λk K=>⟨afU hf.ok.x (g3 hf.ok.yF hf.nodes),afU hf.ok.y (g3 hf.ok.yG hf.nodes)⟩))).mono ?_;rintro e D ⟨v,aj,C,cb,rfl,aQ,hb⟩;exact⟨v,_,rfl,jv rfl aQ,by unfold HL;rw[iT,List.length_finRange],awY _ h2 cb,hb⟩
 ·refine⟨59,a3,fg func59 bq rfl,λw af N g hf aC b1 R h1 h2=>?_⟩;refine(auI hf aC b1 h1 h2).mono ?_;rintro e D ⟨aY,C,rfl,aw,bU,_,aB,hb⟩;exact⟨_,C,rfl,aB,aw,bU,hb⟩
theorem cR.other {be:cY} (bS:V w gZ #[a6 gG,a6 a1,a6 a2,a6 dX] be fr) (K:∀k,k≠gZ->D.heap[k]? =w.heap[k]?) (h:cR w v L):cR D v L:=by
 obtain⟨a,cap,e,h1,h2,ap⟩:=h;refine⟨a,cap,e,h1,h2,λi ag=>?_⟩;obtain⟨b,off,cs,t,f,a8,hb,ah⟩:=ap i ag;have b9:b≠gZ:=by
  rintro rfl;have q:=hb.symm.trans bS;cases q;have:=aiT ah;simp at this
 exact⟨b,off,cs,t,f,a8,(K b b9).trans hb,ah⟩
theorem ru.other {be:cY} (bS:V w gZ #[a6 gG,a6 a1,a6 a2,a6 dX] be fr) (K:∀k,k≠gZ->D.heap[k]? =w.heap[k]?) {L:List (List Int)} (h:ru w v L):ru D v L:=by
 obtain⟨a,cap,e,h1,h2,ap⟩:=h;refine⟨a,cap,e,h1,h2,λi ag=>?_⟩;obtain⟨b,off,cs,t,f,kP,a8,hb,ah,ar⟩:=ap i ag;have b9:b≠gZ:=by
  rintro rfl;have q:=hb.symm.trans bS;cases q;have:=aiT ah;obtain⟨_,_,rfl,_⟩:=ar;simp at this
 exact⟨b,off,cs,t,f,kP,a8,(K b b9).trans hb,ah,ar.other bS K⟩
theorem jq.other (bS:V w gZ #[a6 gG,a6 a1,a6 a2,a6 dX] 69 fr) (K:∀k,k≠gZ->D.heap[k]? =w.heap[k]?) {m:List Int} (h:jq w bE g N m):jq D bE g N m:=by
 obtain⟨vw,jX,td,f,h1,h2,ap,bl⟩:=h.aH;have b9:bE≠gZ:=λe=>by subst e;exact absurd (er h1 bS) bj
 exact⟨⟨vw,jX,td,f,(K bE b9).trans h1,h2.other bS K,ap.other bS K,bl.other bS K⟩,h.len,h.G8,h.nodes,h.jo⟩
theorem mw.other (bS:V w gZ #[a6 gG,a6 a1,a6 a2,a6 dX] 69 fr) (K:∀k,k≠gZ->D.heap[k]? =w.heap[k]?) {m:Int} (h:mw w p L m):mw D p L m:=by
 obtain⟨v,h1,h2⟩:=h;have b9:p≠gZ:=λe=>by subst e;exact absurd (er h1 bS) bj
 exact⟨v,(K p b9).trans h1,h2.other bS K⟩
theorem fE.other (bS:V w gZ #[a6 gG,a6 a1,a6 a2,a6 dX] 69 fr) (K:∀k,k≠gZ->D.heap[k]? =w.heap[k]?) {g b':Nat} {l:List UInt8} (h:fE w p g n b' l):fE D p g n b' l:=by
 have b2:p≠gZ:=λe=>by subst e;exact absurd (er h.head bS) bj
 have cm:g≠gZ:=λe=>by subst e;exact absurd (er h.body bS) bj
 exact{h with head:=(K p b2).trans h.head,body:=(K g cm).trans h.body}
theorem VY:∀(L:List Int) (a:Int),a<=L.foldl max a/\∀x∈L,x<=L.foldl max a
 |[],a=>⟨rZ _,λx h=>by cases h⟩
 |y::L,a=>by
  obtain⟨h1,h2⟩:=VY L (max a y);rw[FM];refine⟨G,λx ak=>?_⟩;rcases gg.1 ak with rfl|ak
  ·omega
  ·exact h2 x ak
theorem aw0 (h:x∈L):x<=qG L:=by
 cases L with
 |nil=>cases h
 |cons a L=>
  unfold qG;rw[QO,aiI];rcases gg.1 h with rfl|h
  ·exact(VY L x).1
  ·exact(VY L a).2 x h
theorem aw1 (aw:L.length=N) (h1:1<=N) (h2:N<=12):
 T' (l1 L)/\(l1 L).length=N/\(∀x∈l1 L,zk x)/\∃many:Nat,((many:Nat):Int)=qG (l1 L)+1/\many<=12/\∀v:Int,0<=v->v<N->0<=p3 (l1 L) v/\p3 (l1 L) v<many:=by
 have aC:(l1 L).length=N:=(Sh L []).trans aw;have b9:l1 L≠[]:=λe=>by rw[e] at aC;simp at aC;omega
 have ar:=adb b9 (ZZ L);refine⟨⟨b9,ZZ L,G⟩,aC,λx ak=>?_,(qG (l1 L)+1).toNat,G,G,λv h0 aK=>?_⟩
 ·have:=T_ ak;exact afT G
 ·have a0:v.toNat<(l1 L).length:=G;have e:p3 (l1 L) v=(l1 L)[v.toNat]:=by unfold p3;rw[eA a0];rfl
  rw[e];have a:=T_ (gB a0);have b:=aw0 (gB a0);omega
theorem zr.other (bS:V w gZ #[a6 gG,a6 a1,a6 a2,a6 dX] 69 fr) (K:∀k,k≠gZ->D.heap[k]? =w.heap[k]?) {gv:Option cp} (h:zr w g N b3 gv):zr D g N b3 gv:=by
 rcases h with h|⟨h,bE,b0,h1,h2,ap⟩
 ·exact .inl h
 ·exact .inr ⟨h,bE,b0,h1,h2.other bS K,ap⟩
theorem VZ (hf:jz g N):g.dR:=by
 have:=hf.ok.yF;have:=hf.ok.yG;have:=hf.nodes;have:=hf.jo;have:=hf.po;exact⟨G,G,G⟩
def V0 (bi W:O) (af gZ:Nat) (g:Raw) (N:Nat) (CY:Bool) (gv:Option cp):Prop:=
 eq bi af g/\ae bi W/\gZ=bi.heap.size/\V W gZ #[J af 0,a6 gv,a6 T,a6 T] 69 (0,0)/\zr W g N CY gv
theorem afX {F:Fence} {P:Program} {ops:Array Oper} {bT:Exit->Act->O->Prop} {aF:Nat} {S jh:O->Prop} (aB:∀u,jh u->S u):∀(fuel:Nat) (listed:Array Bool) (a:Act) (w:O),ej F n P ops bT jh aF fuel listed a w->ej F n P ops bT S aF fuel listed a w
 |0,_,_,_,h=>h
 |fuel+1,_,_,_,h=>⟨h.1,λi ag=>Ib (λfM D fx=>⟨λq=>aB _ (fx.1 q),afX aB fuel _ fM D fx.2⟩) (h.2 i ag)⟩
theorem afY {F:Fence} {P:Program} {ops:Array Oper} {bT:Exit->Act->O->Prop} {aF:Nat} {S jh:O->Prop} {fuel:Nat} {listed:Array Bool} {a:Act} (cb:∀u,ae w u->jh u) (aB:∀u,jh u->S u) (h:jh w->ej F n P ops bT jh aF fuel listed a w):ej F n P ops bT S aF fuel listed a w:=
 afX aB _ _ _ _ (h (cb w (bx _ _)))
theorem V1 {cU:ac} {R:Nat} {fu eh:Int} {l:List Int} (hg:HG w) (hf:jz g N) (b1:1<=N) (aK:uZ w v g) (a9:ip w cU j3 l) (aw:l.length<=1000) (ak:∀x∈l,0<=x/\x<4294967296) (K:k<=12) (ar:fu=0\/fu=1) (NY:eh=0\/eh=1\/eh=2) (ah:1<=R/\R<=256):
 aE aa 7 #[v,pe k fu cU eh R] w λe D=>∃df,e=au (b8 #[J df 0,nj])/\rj D df g N (decide (0<(k:Int))) (!(eh==0))/\ae w D:=by
 have hV:=aK;obtain⟨bW,bV,aN,rfl,Ru,Rv,Rw⟩:=aK;obtain⟨cc,je⟩:=al w.heap.size;obtain⟨a',eB⟩:=al (cc+1);obtain⟨ay,bA⟩:=al (w.alloc (an #[r c g.nodes,bW,bV,aN] 31));obtain⟨aJ,cK⟩:=al (ay.alloc (an #[r c k,r c fu,cU,r c eh,r c R] 39));have g4:ay.heap.size=a':=by rw[bA,eB,je];simp
 have aX:=dx bA;have a5:=dx cK;have mK:=aX.next' a5;have k1:V aJ cc #[r c g.nodes,bW,bV,aN] 31:=by
  have:V ay cc #[r c g.nodes,bW,bV,aN] 31:=by rw[bA,je];exact V.new _ _ _ _
  exact this.aq a5
 have k2:V aJ a' #[r c k,r c fu,cU,r c eh,r c R] 39:=by rw[cK,<-g4];exact V.new _ _ _ _
 have EF:=I (al7 (fl:=(k:Nat)) (fu:=fu) (eh:=eh) (bL:=(R:Nat)) (cU:=cU) ⟨G,G⟩ ar NY ⟨G,G⟩ aJ);have z6:=I (λu (Z:ae aJ u)=>anf _ g u (hg.later (mK.next' Z)) (hV.below (mK.next' Z)) (VZ hf));have dd:=I (cv k1 (cv k2 (cv mK (cv a9 (cv aw ak)))));have dq:=I (cv hf (cv b1 (cv ar (cv NY (cv K ah)))));have dN:=qV bA cK je eB g4;have p1:=aR k1 0;have p2:=aR k1 1;have e8:=aR k1 2;have i6:=aR k1 3;have q0:=aR k2 0;have q1:=aR k2 1;have q2:=aR k2 2;have bm:=aR k2 3;have cZ:=aR k2 4;have yz:=hf.ok;clear hV je eB bA cK;unfold pe at EF⊢;obtain⟨CY,b3⟩:∃b:Bool,decide (0<(k:Int))=b:=⟨_,rfl⟩;obtain⟨afZ,dj⟩:∃b:Bool,(eh==0)=b:=⟨_,rfl⟩;rw[b3,dj];have aFz:(eh !=0)=!afZ:=by rw[<-dj];rfl
 have iP:if CY then(0:Int)<(k:Int) else¬(0:Int)<k:=by cases CY<;>simpa using b3
 go_in;go_wp2_with fail;rw[<-dN.o.1];rw[show w.heap.size+1=a' from by rw[dN.o.2.2.2.1,dN.o.2.2.1]];rw[<-dN.o.2.1,<-dN.o.2.2.1];refine dl EF.o λba ck=>?_;have dh:=I ck;have p':∀{b:Nat} {i:Nat} {x:ac},aJ.cell? (B b i)=A x->ba.cell? (B b i)=A x:=λh=>(ck.cell (zA h)).trans h
 replace p1:=p' p1;replace p2:=p' p2;replace e8:=p' e8;replace i6:=p' i6
 replace q0:=p' q0;replace bm:=p' bm
 go_wp2_with fail;refine(z6.o ba dh.o).mono ?_;rintro e bi ⟨h,c_⟩;rcases h with⟨nH,_⟩|⟨_,af,rfl,dE⟩
 ·exact absurd ((Raw.IR g).2 dq.o.1.ok) nH
 obtain⟨gZ,BX⟩:=al bi.heap.size;obtain⟨bD,gm⟩:=al (bi.alloc (an #[J af 0,a6 T,a6 T,a6 T] 69));have cT:=dx gm;have eV:=(dh.o.next' c_).next' cT;have rA:=eK gm BX;have Gj:=dd.o.2.1.aq eV;have V2:=I (dd.o.2.1.aq (dh.o.next' c_));have g6:=I (dd.o.2.2.1.next' (dh.o.next' c_));have q0:=aR Gj 0;have bm:=aR Gj 3;have vR:=I (show V0 bi bD af gZ g N ao T from⟨dE.at,cT,BX,rA,.inl ⟨rfl,rfl⟩⟩);have nX:=I gm;rw[gm] at q0 bm;clear gm BX;cases CY<;>cases afZ;iterate 2
  focus
   rw[if_neg bj] at iP;go_wp2_with fail;rw[<-nX.o,<-vR.o.2.2.1];obtain⟨W,hW⟩:=al bD;subst hW;obtain⟨gv,bZ⟩:∃gv,aM (V0 bi W af gZ g N ao gv):=⟨T,vR⟩
  rotate_left
 iterate 2
  focus
   rw[if_pos rfl] at iP;go_wp2_with fail;rw[<-nX.o,<-vR.o.2.2.1];have bC:aM (∀u,ae bD u->u.cell? (B a' 0)=A (r c k)/\u.cell? (B a' 1)=A (r c fu)/\u.cell? (B a' 2)=A cU):=λu Z=>by
    have q:=V2.o.aq (vR.o.2.1.next' Z);exact⟨q.cell 0,q.cell 1,q.cell 2⟩
   refine pF 16 bC.o λdV dz ax=>?_;have jW:=I dz;repeat first|refine fS ?_|refine ea ?_
   refine dJ 2 ?_;refine e3 17 #[] (aad dV) ?_;rintro e cz ⟨b,rfl,dU,a5⟩;have hu:=jW.o.next' a5;obtain⟨F,V3,aw2,V4⟩:=awW dq.o.2.2.1;have aw3:=I V4;have zs:aM (∀u,ae cz u->(u.cell? (B a' 0)=A (r c k)/\u.cell? (B a' 1)=A (r c fu)/\u.cell? (B a' 2)=A cU)/\(l' 72 (.map (A b)) (r c fu) ao).run aa u= .ok (.func (.func F) #[] #[]) u):=λu Z=>
    ⟨bC.o u (hu.next' Z),(dU.dy (Z.block b dU.lt)).look XH V3 (by rcases dq.o.2.2.1 with h|h<;>omega)⟩
   have iG:=db (vR.o.2.1.next' hu) hu;refine⟨_,rfl,λ_=>bC.o cz hu,?_⟩;simp only[bN,bM,bO];refine afY zs.o (λ_ h=>h.1) λax=>?_;repeat first|refine fS ?_|refine ea ?_
   refine dJ 11 ?_;refine e3 18 #[cU] (avx cU l dd.o.2.2.2.2.1 dd.o.2.2.2.2.2 cz (dd.o.2.2.2.1.below (g6.o.next' iG.o.1))) ?_;rintro e hI ⟨rfl,fh,ck⟩;have l5:=db ck (iG.o.1.next' ck);refine⟨_,rfl,λ_=>zs.o hI ck,?_⟩;simp only[bN,bM,bO];repeat refine ea ?_
   have jl:1<=k:=G;have ti:bi.heap.size<=cz.heap.size:=iG.o.1.size;have af0:bi.heap.size<=hI.heap.size:=l5.o.2.size;have cS:=I (aw3.o hI af N g dq.o.1 dq.o.2.1 _ _ l fh k jl dq.o.2.2.2.2.1 λu Z=>vR.o.1.a_ (bu.bg (l5.o.2.trans (Z.below af0 λk K=>by omega))));refine dJ 12 ?_;refine e3 F #[J af 0,r c k,J (cz.heap.size+1) 0] cS.o ?_;rintro e mG ⟨af1,b0,rfl,qS,MU,vF,o9,lh⟩;have A1:=I (show ae cz mG/\ae bi mG from⟨l5.o.1.trans (lh.below l5.o.1.size λk K=>by omega),l5.o.2.trans (lh.below af0 λk K=>by omega)⟩);have vO:=I (at3 dq.o.1 (vR.o.1.a_ (bu.bg A1.o.2)) qS o9 MU.2 MU.1);have fG:=db vF o9;refine⟨_,rfl,λ_=>zs.o mG A1.o.1,?_⟩;simp only[bN,bM,bO];refine dJ 13 ?_;refine e3 16 #[J af 0,af1] vO.o ?_;rintro e kw ⟨bE,rfl,aw4,aw5,cT⟩;refine⟨_,rfl,λ_=>zs.o kw (A1.o.1.next' cT),?_⟩;simp only[bN,bM,bO];have rA:=vR.o.2.2.2.1.aq (iG.o.2.next' (A1.o.1.next' cT));obtain⟨W,hW⟩:=al (kw.setCell (B gZ 1) (J bE 0));have aV:kw.cell? (B gZ 1)=A (a6 T):=rA.cell 1;have f6:=rA.free 1 (.inr (cQ _));obtain⟨gv,bZ⟩:∃gv,aM (V0 bi W af gZ g N ad gv):=⟨A (B bE 0),I ⟨vR.o.1,by rw[hW];exact(A1.o.2.next' cT).setCell (p:=B gZ 1) (by rw[vR.o.2.2.1];exact bY _) _,vR.o.2.2.1,by rw[hW];exact rA.set 1 _,.inr ⟨rfl,bE,b0,rfl,aw4.other rA (λk K=>by rw[hW];exact d7 _ _ _ _ K),fG.o⟩⟩⟩;have ax:=zs.o kw (A1.o.1.next' cT);repeat refine ea ?_
   refine jG 16 W ?_ (he:=by rw[hW];go_simp);clear hW;refine fc ?_;have bm:=aR (V2.o.aq bZ.o.2.1) 3;go_wp2_with fail
  rotate_left
 iterate 2
  rotate_left
  focus
   refine gh (v:=b8 #[J gZ 0,nj]) (by simp[gq,aCo,go_sem]) rfl ?_;exact⟨gZ,rfl,⟨dq.o.1,dq.o.2.1,af,gv,T,T,bZ.o.2.2.2.1,bZ.o.1.a_ (bu.bg bZ.o.2.1),bZ.o.2.2.2.2,.inl ⟨rfl,rfl,rfl⟩⟩,g6.o.next' bZ.o.2.1⟩
 all_goals
  have bC:aM (∀u,ae W u->u.cell? (B a' 3)=A (r c eh)/\u.cell? (B a' 4)=A (r c R)):=λu Z=>by
   have q:=V2.o.aq (bZ.o.2.1.next' Z);exact⟨q.cell 3,q.cell 4⟩
  have Fg:eh=1\/eh=2:=by
   rcases dq.o.2.2.2.1 with h|h
   ·subst h;cases dj
   ·exact h
  refine pF 13 bC.o λdV dz ax=>?_;have jW:=I dz;repeat first|refine fS ?_|refine ea ?_
  refine dJ 1 ?_;refine e3 21 #[] (aae dV) ?_;rintro e cz ⟨b,rfl,dU,a5⟩;have hu:=jW.o.next' a5;obtain⟨F,V3,aw2,V4⟩:=awZ Fg;have zs:aM (∀u,ae cz u->(u.cell? (B a' 3)=A (r c eh)/\u.cell? (B a' 4)=A (r c R))/\(l' 79 (.map (A b)) (r c eh) ao).run aa u= .ok (.func (.func F) #[] #[]) u):=λu Z=>
   ⟨bC.o u (hu.next' Z),(dU.dy (Z.block b dU.lt)).look QI V3 (by rcases Fg with h|h<;>omega)⟩
  have iG:=db (bZ.o.2.1.next' hu) hu;have cS:=I (V4 cz af N g dq.o.1 (bZ.o.1.a_ (bu.bg iG.o.1)) dq.o.2.1 R dq.o.2.2.2.2.2.1 dq.o.2.2.2.2.2.2);refine⟨_,rfl,λ_=>bC.o cz hu,?_⟩;simp only[bN,bM,bO];refine afY zs.o (λ_ h=>h.1) λax=>?_;repeat first|refine fS ?_|refine ea ?_
  refine dJ 8 ?_;refine e3 F #[J af 0,r c R] cS.o ?_;rintro e hI ⟨cy,L,rfl,qS,hlen,s6,ck⟩;obtain⟨b2,cm,ii,many,PG,V5,V6⟩:=aw1 hlen dq.o.2.1 dq.o.1.jo;have c9:=I (cv b2 (cv cm (cv ii (cv PG (cv V5 V6)))));have sq:=dq.o.1.jo;have V7:=I (Z6 cy L G s6 hI qS);refine⟨_,rfl,λ_=>zs.o hI ck,?_⟩;have l5:=I ck;simp only[bN,bM,bO];refine dJ 9 ?_;refine e3 20 #[cy] V7.o ?_;rintro e mG ⟨r7,rfl,aw6,c_⟩;have vO:=I (aqr r7 (l1 L) (by rw[c9.o.2.1];omega) c9.o.2.2.1 mG (jv rfl aw6));have A1:=I (l5.o.next' c_);refine⟨_,rfl,λ_=>zs.o mG A1.o,?_⟩;simp only[bN,bM,bO];refine dJ 10 ?_;refine e3 19 #[r7] vO.o ?_;rintro e kw ⟨cL,cT⟩;rcases cL with⟨nH,_⟩|⟨_,dk,rfl,aw5,mh⟩
  ·exact absurd c9.o.1 nH
  rw[<-c9.o.2.2.2.1] at mh;have CZ:=A1.o.next' cT;have ax:=zs.o kw CZ;refine⟨_,rfl,λ_=>ax,?_⟩;simp only[bN,bM,bO];have rA:=bZ.o.2.2.2.1.aq (iG.o.2.next' CZ);have aw7:=iG.o.1.next' CZ;obtain⟨aI,hV⟩:=al (kw.setCell (B gZ 2) (J dk 0));have aV:kw.cell? (B gZ 2)=A (a6 T):=rA.cell 2;have f6:=rA.free 2 (.inr (cQ _));have tj:∀k,k≠gZ->aI.heap[k]? =kw.heap[k]? :=λk K=>by rw[hV];exact d7 _ _ _ _ K
  have Fo:aM (ae bi aI/\V aI gZ #[J af 0,a6 gv,J dk 0,a6 T] 69 (0,0)/\zr aI g N _ gv/\mw aI dk (l1 L) many):=I
   ⟨by rw[hV];exact aw7.setCell (p:=B gZ 2) (by rw[bZ.o.2.2.1];exact bY _) _,by rw[hV];exact rA.set 2 _,(zr.later bZ.o.2.2.2.2 (iG.o.2.next' CZ)).other rA tj,mh.other rA tj⟩
  repeat refine ea ?_
  refine jG 13 aI ?_ (he:=by rw[hV];go_simp);clear hV;refine fc ?_;have bb:=aR Fo.o.2.1 2;have aw8:=I (asX dq.o.1 (bZ.o.1.a_ (bu.bg Fo.o.1)) Fo.o.2.2.2 c9.o.2.1 dq.o.2.1 c9.o.2.2.2.2.1);go_wp2_with fail;refine aw8.o.mono ?_;rintro e dn ⟨du,bs,mr,rfl,La,N0,Hi⟩;have rA:=Fo.o.2.1.aq Hi;have ch:dn.cell? (B gZ 3)=A (a6 T):=rA.cell 3;have f3:=rA.free 3 (.inr (cQ _));have fC:=ig La N0 Hi;have PH:=I rA;go_wp2_with fail;refine gh (v:=b8 #[J gZ 0,nj]) (by simp[gq,aCo,go_sem]) rfl ?_;have tj:∀k,k≠gZ->(dn.setCell (B gZ 3) (J du 0)).heap[k]? =dn.heap[k]? :=λk K=>d7 _ _ _ _ K;have mK:=(Fo.o.1.next' fC.o.2.2).setCell (p:=B gZ 3) (by rw[bZ.o.2.2.1];exact bY _) (J du 0);refine⟨gZ,rfl,⟨dq.o.1,dq.o.2.1,af,gv,A (B dk 0),A (B du 0),PH.o.set 3 _,bZ.o.1.a_ (bu.bg mK),(Fo.o.2.2.1.later fC.o.2.2).other PH.o tj,.inr ⟨rfl,dk,du,l1 L,many,bs,mr,rfl,rfl,?_⟩⟩,g6.o.next' mK⟩;exact⟨dq.o.1,bZ.o.1.a_ (bu.bg mK),(Fo.o.2.2.2.a_ (bu.bg fC.o.2.2)).other PH.o tj,fC.o.1.other PH.o tj,c9.o.2.1,dq.o.2.1,c9.o.2.2.2.2.2,λq6 h0 h1=>by
   have e:q6=((q6.toNat:Nat):Int):=G;rw[e];exact fC.o.2.1 q6.toNat G⟩
end
def w4 (o1:ac) (fl:Int) (fu:Bool) (cU:ac) (eh bL:Int):ac:=aZ #[o1,r dA fl,aA fu,cU,r dA eh,r dA bL]
theorem af2 (v cU:ac) (fl eh bL:Int) (fu:Bool) (l:List Int) (w:O) (h:ip w v dA l):
 aE aa 6 #[w4 v fl fu cU eh bL] w λe D=>∃ca g,e=au ca/\qT w.heap.size D ca g/\g.e2/\(g.nodes<=12/\g.arcs.length<=84)/\ae w D:=by
 obtain⟨a,cap,rfl,h1,h2,ap⟩:=h;unfold ff at h2;obtain⟨m,hm⟩:∃m:Nat,m=min l.length 60:=⟨_,rfl⟩;have f6:(if(60:Int)<(l.length:Int) then(60:Int) else(l.length:Int))=(m:Int):=by split<;>omega
 have lv:m<=cap:=G;have ry:(m:Int)<=cap:=G;have lu:=ew m;obtain⟨a',eB⟩:=al (w.heap.size+1);obtain⟨bH,nP⟩:=al (w.alloc (an #[E a l.length cap,r dA fl,aA fu,cU,r dA eh,r dA bL] 25));have ud:bH.heap.size=w.heap.size+1:=by rw[nP];simp
 have hl:=dx nP;obtain⟨p,aP⟩:=al (w.heap.size+1+1);obtain⟨ay,bA⟩:=al (((w.alloc (an #[E a l.length cap,r dA fl,aA fu,cU,r dA eh,r dA bL] 25)).alloc (an #[r c 0,E T 0 0,E T 0 0,E T 0 0] 31)).alloc (an #[E a m cap,r c 0] 60));have aX:=tW bA;have aFA:((w.alloc (an #[E a l.length cap,r dA fl,aA fu,cU,r dA eh,r dA bL] 25)).alloc (an #[r c 0,E T 0 0,E T 0 0,E T 0 0] 31)).cell? (B w.heap.size 0)=A (E a l.length cap):=((V.new _ _ _ (0,0)).alloc _).cell 0;have qW:V ay a' #[r c 0,E T 0 0,E T 0 0,E T 0 0] 31:=by
  rw[bA,eB,<-nP,<-ud];exact(V.new _ _ _ _).alloc _
 have eb:V ay p #[E a m cap,r c 0] 60:=by
  rw[bA,aP,<-nP,<-ud];have h:=V.new (bH.alloc (an #[r c 0,E T 0 0,E T 0 0,E T 0 0] 31)) #[E a m cap,r c 0] 60 (0,0)
  rwa[d8] at h
 have By:(l.take m).length=m:=by rw[lS];omega
 have fh:pN ay p ⟨w.heap.size,a,cap,l.take m⟩ 0:=by
  refine⟨by dsimp only;rw[By];exact eb,by dsimp only;omega,G,λi ag=>?_⟩;dsimp only at ag⊢;obtain⟨b,off,ha,ah⟩:=ap i G;have a0:=zA ah;refine⟨b,off,ha,by have:=a0;dsimp only at this;omega,a0,?_⟩;rw[Mh];exact(mO (aX.block b a0)).trans ah
 have C:=I (akS p ⟨w.heap.size,a,cap,l.take m⟩ ay fh aX.size);have ft:=I aX;have i5:=I qW;have cX:=I bA;have dT:=I eB;have e_:=I aP;have eU:=I hm;clear aX qW eb bA eB aP By fh ap nP ud hl;unfold w4;go_in;go_wp2_with fail;rw[<-eU.o,<-cX.o,<-e_.o,<-dT.o];clear hm f6 lv ry lu;refine C.o.mono ?_;rintro e aJ ⟨v,g,rfl,⟨bW,bV,aN,rfl,ir,iO,li,vg⟩,bK,hT,t'⟩;have mH:=qk ir;have nO:=qk iO;have eG:=qk li;obtain⟨cP,cC,rfl,_⟩:=mH;obtain⟨eR,ey,rfl,_⟩:=nO;obtain⟨e',eD,rfl,_⟩:=eG;have aw9:=dT.o;have PD:=e_.o;have fk:=t'.aH i5.o G;have e0:=fk.cell 0;have br:=fk.cell 1;have a4:=fk.cell 2;have en:=fk.cell 3;change aJ.cell? (B a' 0)=A (r c 0) at e0;change aJ.cell? (B a' 1)=A (E T 0 0) at br;change aJ.cell? (B a' 2)=A (E T 0 0) at a4;change aJ.cell? (B a' 3)=A (E T 0 0) at en;have fr:=jw fk;have j5:=fr 0;have f6:=fr 1;have eF:=fr 2;have f3:=fr 3;have lZ:=(((fk.set 0 (r c g.nodes)).set 1 (E cP g.X.length cC)).set 2 (E eR g.Y.length ey)).set 3 (E e' g.arcs.length eD);have dK:sV ay.heap.size aJ (E cP g.X.length cC) (E eR g.Y.length ey) (E e' g.arcs.length eD) g:=⟨ir,iO,li,vg⟩;have R2:=(((dK.set (p:=B a' 0) fk bj bj (r c g.nodes)).set (p:=B a' 1) (fk.set 0 (r c g.nodes)) bj bj (E cP g.X.length cC)).set (p:=B a' 2) ((fk.set 0 (r c g.nodes)).set 1 (E cP g.X.length cC)) bj bj (E eR g.Y.length ey)).set (p:=B a' 3) (((fk.set 0 (r c g.nodes)).set 1 (E cP g.X.length cC)).set 2 (E eR g.Y.length ey)) bj bj (E e' g.arcs.length eD);have hle:w.heap.size<=a':=G;have a5:ae w aJ:=MG ft.o t' G;have M6:=(((a5.setCell (p:=B a' 0) hle (r c g.nodes)).setCell (p:=B a' 1) hle (E cP g.X.length cC)).setCell (p:=B a' 2) hle (E eR g.Y.length ey)).setCell (p:=B a' 3) hle (E e' g.arcs.length eD);have qh:w.heap.size<=ay.heap.size:=ft.o.size;have fR:=I lZ;have mX:=I R2;have aw_:=I M6;have j_:=I bK;have aw':=I hT;clear lZ R2 M6 fk fr hle t' dK ir iO li vg bK hT a5 C aw9 PD;go_wp2_with fail;generalize(((aJ.setCell (B a' 0) (r c g.nodes)).setCell (B a' 1) (E cP g.X.length cC)).setCell (B a' 2) (E eR g.Y.length ey)).setCell (B a' 3) (E e' g.arcs.length eD)=hR at*;have fU:=fR.o.cell 0;have fO:=fR.o.cell 1;have fD:=fR.o.cell 2;have iU:=fR.o.cell 3;change hR.cell? (B a' 0)=A (r c g.nodes) at fU;change hR.cell? (B a' 1)=A (E cP g.X.length cC) at fO;change hR.cell? (B a' 2)=A (E eR g.Y.length ey) at fD;change hR.cell? (B a' 3)=A (E e' g.arcs.length eD) at iU;exact gh (v:=aZ #[r c g.nodes,E cP g.X.length cC,E eR g.Y.length ey,E e' g.arcs.length eD]) (by simp[gq,results6,go_sem,fU,fO,fD,iU]) rfl ⟨_,g,rfl,⟨_,_,_,rfl,n5 mX.o.1 qh,n5 mX.o.2.1 qh,n5 mX.o.2.2.1 qh,mX.o.2.2.2⟩,j_.o,aw'.o,aw_.o⟩
section
attribute [local go_sem] f'
theorem axa (w:O) (a:Option cp) (m R b:Nat) (L:List Int) (aw:L.length<=1000) (h:ip w (E a m R) j3 L):
 ∃ca D,(qN #[23,23] 23 #[E (A (B b 0)) 0 0,E a m R]).run aa w= .ok ca D/\ip D ca j3 L/\ae w D:=by
 obtain⟨eP,ag,fL,gi,gt⟩:=m6 aeS;obtain⟨fM,cap,e,g',iE,jx⟩:=h;cases e;have b3:=XY;by_cases h0:L.length=0
 ·have hL:L=[]:=ah2 h0;subst hL;refine⟨E (A (B b 0)) 0 0,w,?_,⟨_,_,rfl,bY _,by unfold ff;omega,λi ag=>absurd ag (Dh i)⟩,bx _ _⟩;cases a<;>simp[qN,v4 b3,sizeOf,typeInfo,ag,Builtin.lenOf,Builtin.firstCells,loadCells,loadCellsFrom,storeCells]
 ·obtain⟨Kk,af3,rfl,_⟩:=jx 0 G;have aC:∀(j:Nat) (v:ac),(L.map (kK j3))[j]? =A v->w.cell? ((B Kk af3:cp).add j)=A v:=λj v aK=>by
   have av:j<L.length:=by
    have:=(r4.1 aK).1;simpa using this
   obtain⟨qR,dt,fm,ah⟩:=jx j av;cases fm;rw[w',eA av] at aK;cases aK;rw[Addr.add_lit];exact ah
  refine⟨_,_,run_append_grow w 23 23 275 eP _ b3 ag fL (B b 0) 0 0 [] a3 a3 (B Kk af3) L.length R (L.map (kK j3)) (by rw[gi,iT];omega) aC G G (by rw[gt,jC,nextslicecap_zero G];omega),?_,((bx _ _).drew).alloc (by exact bY _) _⟩;simp only[jC];refine⟨_,_,rfl,grownCap_ge _ _ _ _,grownCap_le_maxLen _ _ _ _ (by unfold ff;omega),λi ag=>⟨_,_,rfl,?_⟩⟩;have k:=V.new w.drew (#[]++(L.map (kK j3)).toArray++Builtin.zeroCells (kK j3 0).cells (grownCap w L.length 0 275-L.length)) 275 (0,0);rw[jC];have k2:=k.cell i;refine Eq.trans k2 ?_;simp[Array.getElem?_append,ag]
theorem ip.other {be:cY} (bS:V w P cs be fr) (m9:∀x∈cs,∀y,x≠r j3 y) (K:∀k,k≠P->D.heap[k]? =w.heap[k]?) (h:ip w v j3 L):ip D v j3 L:=by
 obtain⟨a,cap,e,h1,h2,ap⟩:=h;refine⟨a,cap,e,h1,h2,λi ag=>?_⟩;obtain⟨b,off,a8,ah⟩:=ap i ag;have b9:b≠P:=by
  rintro rfl;have q:=(bS.cell (off+i)).symm.trans ah;exact m9 _ (aiT q) _ rfl
 exact⟨b,off,a8,(mO (K b b9)).trans ah⟩
def C0 (w:O) (P:Nat) (a b R d e:ac):O:=((((w.setCell (B P 0) a).setCell (B P 1) b).setCell (B P 2) R).setCell (B P 3) d).setCell (B P 4) e
theorem V8 (w:O) (P:Nat) (a b R d e:ac):∀k,k≠P->(C0 w P a b R d e).heap[k]? =w.heap[k]? :=λk K=>by
 unfold C0;exact(d7 _ _ _ _ K).trans ((d7 _ _ _ _ K).trans ((d7 _ _ _ _ K).trans ((d7 _ _ _ _ K).trans (d7 _ _ _ _ K))))
theorem V9 {c0 cI dB hX ya:ac} {be:cY} (h:V w P #[c0,cI,dB,hX,ya] be) (a b R d e:ac):V (C0 w P a b R d e) P #[a,b,R,d,e] be:=((((h.set 0 a).set 1 b).set 2 R).set 3 d).set 4 e
theorem V_ {ai:Nat} {bH:O} (hb:bQ ai bH w) (dj:ai<=P) (a b R d e:ac):bQ ai bH (C0 w P a b R d e):=
 ((((hb.setCell (p:=B P 0) dj a).setCell (p:=B P 1) dj b).setCell (p:=B P 2) dj R).setCell (p:=B P 3) dj d).setCell (p:=B P 4) dj e
def PI (L:List Int) (k q R:Nat):Nat->ac->Nat->Nat->O->Prop:=λj v l _ w=>match j with
 |4=>v=E (A ⟨l,0,T⟩) 0 0
 |12=>ip w v j3 L
 |22=>∃d,v=aZ #[r c k,r c 0,d,r c q,r c R]/\ip w d j3 L
 |23=>v=a6 (A ⟨l,0,T⟩)/\V w l #[r c 0,r c 0,E T 0 0,r c 0,r c 0] 39
 |_=>True
theorem axb (L:List Int) (k q R:Nat) (j:Nat) (v:ac) (l h:Nat) (w D:O) (ah:PI L k q R j v l h w) (hb:ae w D):PI L k q R j v l h D:=by
 unfold PI at ah⊢;split at ah
 ·exact ah
 ·exact ah.below hb
 ·obtain⟨d,h1,h2⟩:=ah;exact⟨d,h1,h2.below hb⟩
 ·exact⟨ah.1,ah.2.aq hb⟩
 ·trivial
theorem V' {m:Int} (h:0<=x) (hm:0<m):∃k:Nat,x.tmod m=(k:Int)/\(k:Int)<m:=by
 have e:x.tmod m=x%m:=Dl h;have h1:=Ij x (show m≠0 by omega);have h2:=FN x hm;exact⟨(x%m).toNat,G,G⟩
theorem af4 (o1 cU:ac) (fl eh bL:Int) (fu:Bool) (g2:List Int) (w:O) (h:ip w cU j3 g2) (h1:0<=fl/\fl<=255) (h2:0<=eh/\eh<=255) (ap:0<=bL/\bL<=255):
 aE aa 8 #[w4 o1 fl fu cU eh bL] w λe D=>∃(k R:Nat) (U q:Int) (d:ac),e=au (pe k U d q R)/\k<=12/\(U=0\/U=1)/\(q=0\/q=1\/q=2)/\(1<=R/\R<=256)/\ip D d j3 (g2.take (min g2.length 12))/\ae w D:=by
 obtain⟨a,cap,rfl,aFB,iE,jx⟩:=h;obtain⟨ay,bA⟩:=al ((w.alloc (an #[o1,r dA fl,aA fu,E a g2.length cap,r dA eh,r dA bL] 25)).alloc (an #[r c 0,r c 0,E T 0 0,r c 0,r c 0] 39));obtain⟨cc,je⟩:=al w.heap.size;obtain⟨a',eB⟩:=al (w.heap.size+1);have aX:=oQ bA;have k1:V ay cc #[o1,r dA fl,aA fu,E a g2.length cap,r dA eh,r dA bL] 25:=by rw[bA,je];exact(V.new _ _ _ _).alloc _
 have k2:V ay a' #[r c 0,r c 0,E T 0 0,r c 0,r c 0] 39:=by
  rw[bA,eB];have h:=V.new (w.alloc (an #[o1,r dA fl,aA fu,E a g2.length cap,r dA eh,r dA bL] 25)) #[r c 0,r c 0,E T 0 0,r c 0,r c 0] 39 (0,0)
  rwa[d8] at h
 have bC:aM (∀u,ae ay u->u.cell? (B cc 1)=A (r dA fl)/\u.cell? (B cc 3)=A (E a g2.length cap)/\u.cell? (B cc 4)=A (r dA eh)/\u.cell? (B cc 5)=A (r dA bL)):=λu Z=>by
  have q:=k1.aq Z;exact⟨q.cell 1,q.cell 3,q.cell 4,q.cell 5⟩
 have dN:=ig bA je eB;obtain⟨m,hm⟩:∃m:Nat,m=min g2.length 12:=⟨_,rfl⟩;unfold ff at iE;have f6:(if(12:Int)<(g2.length:Int) then(12:Int) else(g2.length:Int))=(m:Int):=by split<;>omega
 have lv:m<=cap:=G;have ry:(m:Int)<=cap:=G;have lu:=ew m;have eU:=I hm;have fG:=I (show ip w (E a m cap) j3 (g2.take m) from⟨a,cap,by rw[lS,show min m g2.length=m by omega],by rw[lS];omega,iE,λi ag=>by
  rw[lS] at ag;obtain⟨b,off,a8,ah⟩:=jx i G;exact⟨b,off,a8,by rw[Mh];exact ah⟩⟩)
 obtain⟨k,K,qn⟩:=V' h1.1 (show(0:Int)<6 by decide);obtain⟨q,aO,Az⟩:=V' h2.1 (show(0:Int)<3 by decide);obtain⟨x3,he,aFC⟩:=V' ap.1 (show(0:Int)<8 by decide);obtain⟨R,aFD⟩:∃R:Nat,(1:Int)+(x3:Int)=R:=⟨x3+1,G⟩;have uB:=I (show k<=12/\((q:Int)=0\/(q:Int)=1\/(q:Int)=2)/\(1<=R/\R<=256) from⟨G,G,G,G⟩);have a5:∀u,(Instr.buildSlice 23 0 #[]).run aa u= .ok (E (A (B u.heap.size 0)) 0 0) (u.alloc (an #[] 275)):=λu=>by kernel_rfl
 clear bA je eB hm;unfold w4;cases fu;all_goals
  go_in;go_wp2_with fail;rw[<-dN.o.1,<-dN.o.2.2,<-dN.o.2.1];refine pF 24 bC.o λdV dz ax=>?_;repeat first|refine fS ?_|refine ea ?_
  refine ct 3 (r c k) (λ_=>ax) ?_ (az:=λw=>⟨by rfl,by go_simp;exact ll _ G G⟩);refine ct 16 (r c q) (λ_=>ax) ?_ (az:=λw=>⟨by rfl,by go_simp;exact ll _ G G⟩);refine ct 20 (r c x3) (λ_=>ax) ?_ (az:=λw=>⟨by rfl,by go_simp;exact ll _ G G⟩);refine ct 21 (r c R) (λ_=>ax) ?_ (az:=λw=>⟨by rfl,by go_simp;exact ll _ G G⟩);refine yI [4,12,22,23] (PI (g2.take m) k q R) (eF:=1) (λj v l h w D ah hb _=>axb _ _ _ _ _ _ _ _ _ _ ah hb) (λD bU=>bC.o _ (dz.next' bU)) ?step ?fin
  case step=>
   intro i ag fj dZ jZ ia t u hp fP hF;simp only[gg,iS,or_false] at ag;have hj:=dz.next' hF.below;rcases ag with rfl|rfl|rfl|rfl
   ·exact gD (E (A (B u.heap.size 0)) 0 0) (u.alloc (an #[] 275)) ⟨_,rfl,fb,rfl⟩
   ·have axc:t[15]? =A (E a m cap):=hF.base fP 15;obtain⟨h9,ah,_⟩:=hF.jV hp 4 8;have ah:dZ 4=_:=ah;rw[ah] at h9;obtain⟨ca,D,ar,aB,hb⟩:=axa u a m cap (jZ 4) (g2.take m) (by rw[lS];omega) (fG.o.below (aX.next' hj));exact tP (ca:=ca) (D:=D) rfl rfl rfl (by rfl) (.tmp 8) (.tmp 15) _ _ rfl (by simpa [Act.eval,h9,axc] using ar) ⟨_,rfl,hb,aB⟩
   ·have X2:t[7]? =A (r c k):=hF.base fP 7;have t20:t[20]? =A (r c q):=hF.base fP 20;have t25:t[25]? =A (r c R):=hF.base fP 25;obtain⟨axd,ah,_⟩:=hF.jV hp 12 16;have ah:ip u (dZ 12) j3 (g2.take m):=ah;obtain⟨cP,cC,aK,_⟩:=id ah;rw[aK] at axd ah;exact gD (aZ #[r c k,r c 0,E cP (g2.take m).length cC,r c q,r c R]) u ⟨_,rfl,bx _ _,_,rfl,ah⟩
   ·exact gD (J u.heap.size 0) (u.alloc (an #[r c 0,r c 0,E T 0 0,r c 0,r c 0] 39)) ⟨_,rfl,fb,rfl,V.new _ _ _ _⟩
  case fin=>
   intro dZ jZ ia u hb dK _;obtain⟨⟨d,Wa,a9⟩,_,_,_⟩:=dK 22 a3;obtain⟨⟨axe,k3⟩,af5,_,_⟩:=dK 23 a3;rw[Wa,axe];obtain⟨cP,cC,rfl,_⟩:=id a9;obtain⟨n,aC⟩:=al ((g2.take m).length);rw[<-aC] at a9⊢;clear aC;have gQ:=dz.next' hb;have C1:=k1.aq gQ;have gS:=k2.aq gQ;obtain⟨A2,af6⟩:=al (jZ 23);rw[<-af6] at k3 af5⊢;clear af6;have g':ay.heap.size<=A2:=cM dz.size af5;have b2:¬A2=cc:=λe=>by have:=k1.lt;omega
   have cm:¬A2=a':=λe=>by have:=k2.lt;omega
   have ii:¬a'=A2:=λe=>cm e.symm;have PG:¬cc=A2:=λe=>b2 e.symm;have p0:=aR k3 0;have p1:=aR k3 1;have p2:=aR k3 2;have e8:=aR k3 3;have i6:=aR k3 4;have fr:=jw k3;have j5:=fr 0;have f6:=fr 1;have eF:=fr 2;have f3:=fr 3;have f4:=fr 4;obtain⟨aI,hV⟩:=al (C0 u A2 (r c k) (r c 0) (E cP n cC) (r c q) (r c R));refine jG 24 aI ?_ (he:=by rw[hV];unfold C0;go_simp);refine fc ?_;have Fp:V aI A2 #[r c k,r c 0,E cP n cC,r c q,r c R] 39:=by rw[hV];exact V9 k3 _ _ _ _ _
   have nA:ae ay aI:=by rw[hV];exact V_ gQ g' _ _ _ _ _
   have PJ:ip aI (E cP n cC) j3 (g2.take m):=a9.other k3 a3 (by rw[hV];exact V8 _ _ _ _ _ _ _);have C1:=k1.aq nA;have gS:=k2.aq nA;have p0:=aR Fp 0;have p1:=aR Fp 1;have p2:=aR Fp 2;have e8:=aR Fp 3;have i6:=aR Fp 4;have m2:=aR gS 0;have s1:=aR gS 1;have fX:=aR gS 2;have oM:=aR gS 3;have u3:=aR gS 4;have r2:=aR C1 2;have amz:=Fp.free 1 (Or.inr (cQ _));have fr:=jw gS;have j5:=fr 0;have f6:=fr 1;have eF:=fr 2;have f3:=fr 3;have f4:=fr 4;clear hV;go_wp2_with fail;have eB:w.heap.size<=a':=bI dN.o.2.2;have key:∀(cE:O) (U:Int),ae ay cE->V cE a' #[r c 0,r c 0,E T 0 0,r c 0,r c 0] 39 (0,0)->ip cE (E cP n cC) j3 (g2.take m)->∃z,z=((((cE.setCell (B a' 0) (r c k)).setCell (B a' 1) (r c U)).setCell (B a' 2) (E cP n cC)).setCell (B a' 3) (r c q)).setCell (B a' 4) (r c R)/\
    V z a' #[r c k,r c U,E cP n cC,r c q,r c R] 39 (0,0)/\ae w z/\ip z (E cP n cC) j3 (g2.take m):=λcE U hb e6 aB=>
    ⟨_,rfl,V9 e6 _ _ _ _ _,V_ (aX.next' hb) eB _ _ _ _ _,aB.other e6 a3 (V8 _ _ _ _ _ _ _)⟩
   have Po:=key aI 0 nA gS PJ;have t0:=key (aI.setCell (B A2 1) (r c 1)) 1 (nA.setCell (p:=B A2 1) g' _) (gS.gr _ _ ii) (PJ.other Fp a3 λk K=>d7 _ _ _ _ K);first
    |(obtain⟨z,b5,w5⟩:=Po;rw[<-b5];obtain⟨U,nr⟩:∃U:Int,U=0:=⟨_,rfl⟩;have ar:U=0\/U=1:= .inl nr;rw[<-nr] at w5;clear nr)
    |(obtain⟨z,b5,w5⟩:=t0;rw[<-b5];obtain⟨U,nr⟩:∃U:Int,U=1:=⟨_,rfl⟩;have ar:U=0\/U=1:= .inr nr;rw[<-nr] at w5;clear nr)
   replace w5:=I w5
   clear b5;have fU:=aR w5.o.1 0;have fO:=aR w5.o.1 1;have fD:=aR w5.o.1 2;have iU:=aR w5.o.1 3;have uf:=aR w5.o.1 4;refine gh (v:=pe k U (E cP n cC) q R) (by simp[gq,results8,go_sem,fU,fO,fD,iU,uf,pe]) rfl ⟨k,R,U,(q:Nat),_,rfl,uB.o.1,ar,uB.o.2.1,uB.o.2.2,?_,w5.o.2.1⟩;rw[<-eU.o];exact w5.o.2.2
end
end Go.Proofs.YtnmliebconiefaaGreatDoor
