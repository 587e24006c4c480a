/- Texts of TopTriangle's and TopMoved's walks, made small by a printer; no conditions. -/
import Derived.Test.YtnmliebconiefaaGreatDoorQ02
import Derived.Laws.CopyRow
import Derived.Laws.CopyOwn
import Derived.RangeFuncNested
open And renaming intro→cv
open Array renaming ext→aBI,ofFn→Mc
open Bool renaming false→ao,true→ad
open Exists renaming intro→aBH
open Go renaming Addr→cp,Calls→aE,Deferred→j2,TypeId→cY,Value→ac,World→O,callFunc→gM,plainElem→sN,results→gq,undef→dr
open Go.Addr renaming add→ym
open Go.Builtin renaming copy_→If
open Go.Ending renaming returned→au
open Go.Fence renaming wide→dY
open Go.Instr renaming index→uO,slice→Ih
open Go.IntKind renaming i64→c,u64→j4
open Go.KeepsOthers renaming alloc→aIK
open Go.Obj renaming cells→an
open Go.Proofs.Tryz renaming func253→aBA,prog→aa
open Go.Result renaming andThen→o5
open Go.RowKit renaming Below→bQ,intOf→cu
open Go.Value renaming agg→aZ,bool→aA,int→r,slice→E,tuple→b8,int→kK,slice→iB
open List renaming drop_append→aBD,range→m8,replicate→d5
open Nat renaming reduceAdd→gA,reduceSub→g1
open Option renaming none→T,some→A
namespace Go.Proofs.YtnmliebconiefaaGreatDoor
open Go.RowKit Go.Shelf Go.Proofs.Tryz
set_option linter.all false
set_option maxRecDepth 100000
set_option maxHeartbeats 32000000
def aiC:=@Go.KeepsFrom.refl
def aBE:=@List.drop_of_length_le
def aBF:=@List.drop_replicate
def Mb:=@List.eq_of_mem_replicate
def XL:=@List.getElem_replicate
def QM:=@List.nodup_nil
def aBG:=@List.replicate_append_replicate
def XO:=@List.take_add_one
def aBC:=@List.take_append_of_le_length
def XN:=@Prod.ext
def XM:=@Go.below_setRow
variable {cs:Array ac} {R d k s t u v x y:Int} {cA:Int → Int} {bc:Int → Option Int} {hB:Int → Prop} {C l m:List Int} {Q arcs:List bd} {L c':List bw} {N ab ai aj am bE bX bv bz hr i n p:Nat} {fr:Nat × Nat} {a7 pl:Nat → Prop} {D W X Y cG w:O} {d_:ac} {aD:bd → Int}
def lz (x:Int) (n m:Nat):Array ac:=(d5 m (kK c x)++d5 (n-m) (kK c 0)).toArray
theorem aa1 (x:Int) (n m:Nat) (h:m<=n):(lz x n m).size=n:=by unfold lz;simp;omega
theorem aa2 (x:Int) (n m j:Nat) (h:j<m):(lz x n m)[j]? =A (r c x):=by
 unfold lz;rw[la,Ig (by simpa using h),Il,if_pos h]
theorem aa3 (x:Int) (n:Nat):lz x n n=c6 c (d5 n x):=by unfold lz c6;simp
theorem ano (n:Nat) (aC:n<=12) (w:O):aE aa 288 #[r j4 1,r j4 n] w λe D=>e=au (b8 #[r j4 0,r j4 n])/\D=w:=by
 match n,aC with
 |0,_=>
  go_in;go_wp2_with fail
  go_ret2
  exact⟨rfl,rfl⟩
 |1,_=>
  go_in;go_wp2_with fail
  go_ret2
  exact⟨rfl,rfl⟩
 |2,_=>
  go_in;go_wp2_with fail
  go_ret2
  exact⟨rfl,rfl⟩
 |3,_=>
  go_in;go_wp2_with fail
  go_ret2
  exact⟨rfl,rfl⟩
 |4,_=>
  go_in;go_wp2_with fail
  go_ret2
  exact⟨rfl,rfl⟩
 |5,_=>
  go_in;go_wp2_with fail
  go_ret2
  exact⟨rfl,rfl⟩
 |6,_=>
  go_in;go_wp2_with fail
  go_ret2
  exact⟨rfl,rfl⟩
 |7,_=>
  go_in;go_wp2_with fail
  go_ret2
  exact⟨rfl,rfl⟩
 |8,_=>
  go_in;go_wp2_with fail
  go_ret2
  exact⟨rfl,rfl⟩
 |9,_=>
  go_in;go_wp2_with fail
  go_ret2
  exact⟨rfl,rfl⟩
 |10,_=>
  go_in;go_wp2_with fail
  go_ret2
  exact⟨rfl,rfl⟩
 |11,_=>
  go_in;go_wp2_with fail
  go_ret2
  exact⟨rfl,rfl⟩
 |12,_=>
  go_in;go_wp2_with fail
  go_ret2
  exact⟨rfl,rfl⟩
theorem mul_one (n:Nat) (aC:n<=12) (w:O):aE aa 248 #[r j4 1,r j4 n] w λe D=>e=au (b8 #[r j4 0,r j4 n])/\D=w:=by
 have H:=I (ano n aC w);go_in;go_wp2_with fail;refine eO H.o ?_;go_wp2_with fail
 go_ret2
 exact⟨rfl,rfl⟩
theorem NM:(prog.info? 2).map (λi=>(i.zero,i.size,i.bytes))=A (A (r c 0),1,8):=bq
theorem aa4 (x:Int) (n:Nat) (aC:n<=12) (ai:Nat) (w:O) (cd:w.cell? (B ai 0)=A (r c x)):
 aE aa 163 #[E (A (B ai 0)) 1 1,r c n] w λe D=>∃g,e=au (E (A (B g 0)) n n)/\V D g (c6 c (d5 n x)) 2 (0,0)/\w.heap.size<=g/\ae w D:=by
 have eU:=I (mul_one n aC w);have jT:=ys (P:=aa) 28 2 c 8 v5 NM n G G;obtain⟨g,hg⟩:=al w.heap.size;obtain⟨ay,bA⟩:=al (w.alloc (an (c6 c (d5 n 0)) 2));have k1:=eK bA hg;have aX:=dx bA;have rG:g≠ai:=by rw[hg];have:=zA cd;simp at this;omega
 have je:ay.cell? (B ai 0)=A (r c x):=mP aX cd;obtain⟨bR,sp⟩:=al (min 1 n);have xE:∀kp,(If #[28,28] kp #[E (A (B g 0)) n n,E (A (B ai 0)) 1 1]).run aa ay= .ok (r c bR) (ay.setRow g (lz x n bR)):=λkp=>by
  have h:=Qm (P:=aa) ay 28 28 kp 2 g 0 n n (B ai 0) 1 1 _ _ (d5 bR (r c x)) v5 rfl k1 (by rw[jD,sp]) (λj v av=>by
   obtain⟨wB,rp⟩:=r4.1 av;rw[jD] at wB;obtain rfl:j=0:=G;rw[<-rp,XL];exact je) (by rw[jD,QW,jD];omega) (λv aK=>by rw[Mb aK];rfl)
  rw[h,jD];have e:((c6 c (d5 n 0)).toList.take 0++d5 bR (kK c x)++(c6 c (d5 n 0)).toList.drop (0+bR)).toArray=lz x n bR:=by
   unfold lz c6;simp
  rw[e];rfl
 obtain⟨aJ,cK⟩:=al (ay.setRow g (lz x n bR));rw[<-cK] at xE;have bZ:=I (show V aJ g (lz x n bR) 2 (0,0)/\ae w aJ/\w.heap.size<=g from⟨by rw[cK];exact P9 _ _ _ _ _ _ k1,by rw[cK];exact XM aX (tM hg.symm) _,tM hg.symm⟩);have aa5:(n:Int)<=12:=G;have cX:=I bA;have HG:=I hg;have ub:=I sp;have S5:=I xE;clear xE bA k1 aX rG je cK hg sp;go_in;go_wp2_with fail;refine eO eU.o ?_;have xE:∀kp,(If #[28,28] kp #[E (A (B w.heap.size 0)) n n,E (A (B ai 0)) 1 1]).run aa (w.alloc (an (c6 c (d5 n 0)) 2))= .ok (r c bR) aJ:=by rw[<-cX.o,<-HG.o];exact S5.o
 go_wp2_with fail;clear xE jT;rw[<-HG.o];go_loopw [8] (λu wr=>∃m:Nat,u=r c m/\m<=n/\(0<n->0<m)/\aM (V wr g (lz x n m) 2 (0,0)/\ae w wr/\w.heap.size<=g)) (λu _=>n-(cu u).toNat)
 ·exact⟨bR,rfl,by rw[ub.o];omega,λh=>by rw[ub.o];omega,bZ⟩
 ·obtain⟨m,rfl,hm,lu,cW⟩:=hrel;by_cases a0:m<n
  ·have ie:(m:Int)<n:=G;obtain⟨q,aO⟩:=al (min m (n-m));obtain⟨U,ar⟩:=al (m+q);have Ea:=lu G;have yR:min (m+m) n=U:=G;have anp:∀u,(Ih 28 (E (A (B g 0)) n n) (A (r c m)) T T).run aa u= .ok (E (A (B g m)) (n-m) (n-m)) u:=λu=>by
    have ht:prog.underlying 28=A (.slice (prog.elem 28)):=by
     have he:prog.elem 28=2:=bq;rw[he];exact v5
    rw[run_slice_l u 28 (A (B g 0)) n n ht c m G G];have aB:(sizeOf (prog.elem 28)).run aa u= .ok 1 u:=bq;rw[aB];have b9:¬n=m:=G;have JB:¬m=0:=G;simp[o5,sliced,b9,JB,ym]
   have anq:∀u,(Ih 28 (E (A (B g 0)) n n) T (A (r c m)) T).run aa u= .ok (E (A (B g 0)) m n) u:=λu=>Ro 28 2 _ n n m v5 rfl hm u;have JC:aM (∀u,ae wr u->∀kp,(If #[28,28] kp #[E (A (B g m)) (n-m) (n-m),E (A (B g 0)) m n]).run aa u= .ok (r c q) (u.setRow g (lz x n (min (m+m) n)))):=λu Z kp=>by
    have uc:=cW.o.1.aq Z;have h:=Qm (P:=aa) u 28 28 kp 2 g m (n-m) (n-m) (B g 0) m n _ _ (d5 q (r c x)) v5 rfl uc (by rw[jD,aO]) (λj v av=>by
     obtain⟨wB,rp⟩:=r4.1 av;rw[jD] at wB;have a8:(B g 0:cp).add j=(B g j):=by unfold ym;split<;>simp_all
     rw[a8,uc.cell,aa2 _ _ _ _ G,<-rp,XL]) (by rw[jD,aa1 _ _ _ hm];omega) (λv aK=>by rw[Mb aK];rfl)
    rw[h,jD];have e:((lz x n m).toList.take m++d5 q (kK c x)++(lz x n m).toList.drop (m+q)).toArray=lz x n (min (m+m) n):=by
     rw[yR];unfold lz;simp only[];rw[aBC a3,Qp a3,aBD,aBE a3,f1,aBF,aBG,jD,<-ar,show n-m-(U-m)=n-U by omega]
    rw[e];rfl
   have tf:aM (∀u,ae wr u->True):=λ_ _=>trivial;have anr:(q:Int)<=12:=G;have Gq:(m:Int)<=12:=G;have S6:IntKind.i64.wrap ((m:Int)+(q:Int))=(U:Int):=by rw[ar,QK];exact o7 _ G
   have Ak:=ig yR Ea (show m<U/\U<=n by omega);clear aO ar lu yR Ea
   go_upto_region 9 with fail
   refine jQ (λD=>True) 7 rfl ?_;change ej _ _ _ _ _ _ _ 10 _ _ wr.drew;obtain⟨et,dm⟩:=al wr.drew;have aL:=I (show ae wr et by rw[dm];exact(bx _ _).drew);rw[<-dm];clear dm;refine ct 0 (r c m) (λ_=>tf.o _ aL.o) ?_;refine ct 1 (E (A (B g 0)) n n) (λ_=>tf.o _ aL.o) ?_;refine ct 2 (r c m) (λ_=>tf.o _ aL.o) ?_;refine ct 3 (E (A (B g m)) (n-m) (n-m)) (λ_=>tf.o _ aL.o) ?_;refine ct 4 (E (A (B g 0)) n n) (λ_=>tf.o _ aL.o) ?_;refine ct 5 (r c m) (λ_=>tf.o _ aL.o) ?_;refine ct 6 (E (A (B g 0)) m n) (λ_=>tf.o _ aL.o) ?_;refine dJ 7 ?_;have G0:=JC.o et aL.o;obtain⟨bD,gm⟩:=al (et.setRow g (lz x n (min (m+m) n)));rw[<-gm] at G0;refine gD (r c q) bD ?_;refine⟨gj,?_⟩;simp only[bN,bM,bO];repeat refine ea ?_
   refine fc ?_;have c9:=I (show V bD g (lz x n U) 2 (0,0)/\ae w bD/\w.heap.size<=g from by
    have e:=Ak.o.1;rw[e] at gm;rw[gm];exact⟨P9 _ _ _ _ _ _ (cW.o.1.aq aL.o),XM (cW.o.2.1.next' aL.o) cW.o.2.2 _,cW.o.2.2⟩)
   clear G0 gm aL JC S6;go_roundw
   ·(repeat apply aBH);exact⟨⟨U,rfl,Ak.o.2.2.2,λ_=>(bI Ak.o),c9⟩,rfl⟩
   ·have:=Ak.o;simp[cu];omega
  ·obtain rfl:m=n:=G;clear lu;go_wp2_with fail;go_ret;refine⟨g,rfl,?_,cW.o.2.2,cW.o.2.1⟩;have h:=cW.o.1;rw[aa3] at h;exact h
theorem NN:(prog.info? 3).map (λi=>(i.zero,i.size,i.bytes))=A (A (r c 0),1,8):=bq
theorem aa6 (x:Int) (n:Nat) (aC:n<=12) (ai:Nat) (w:O) (cd:w.cell? (B ai 0)=A (r c x)):
 aE aa 164 #[E (A (B ai 0)) 1 1,r c n] w λe D=>∃g,e=au (E (A (B g 0)) n n)/\V D g (c6 c (d5 n x)) 3 (0,0)/\w.heap.size<=g/\ae w D:=by
 have eU:=I (mul_one n aC w);have jT:=ys (P:=aa) 41 3 c 8 nG NN n G G;obtain⟨g,hg⟩:=al w.heap.size;obtain⟨ay,bA⟩:=al (w.alloc (an (c6 c (d5 n 0)) 3));have k1:=eK bA hg;have aX:=dx bA;have rG:g≠ai:=by rw[hg];have:=zA cd;simp at this;omega
 have je:ay.cell? (B ai 0)=A (r c x):=mP aX cd;obtain⟨bR,sp⟩:=al (min 1 n);have xE:∀kp,(If #[41,41] kp #[E (A (B g 0)) n n,E (A (B ai 0)) 1 1]).run aa ay= .ok (r c bR) (ay.setRow g (lz x n bR)):=λkp=>by
  have h:=Qm (P:=aa) ay 41 41 kp 3 g 0 n n (B ai 0) 1 1 _ _ (d5 bR (r c x)) nG rfl k1 (by rw[jD,sp]) (λj v av=>by
   obtain⟨wB,rp⟩:=r4.1 av;rw[jD] at wB;obtain rfl:j=0:=G;rw[<-rp,XL];exact je) (by rw[jD,QW,jD];omega) (λv aK=>by rw[Mb aK];rfl)
  rw[h,jD];have e:((c6 c (d5 n 0)).toList.take 0++d5 bR (kK c x)++(c6 c (d5 n 0)).toList.drop (0+bR)).toArray=lz x n bR:=by
   unfold lz c6;simp
  rw[e];rfl
 obtain⟨aJ,cK⟩:=al (ay.setRow g (lz x n bR));rw[<-cK] at xE;have bZ:=I (show V aJ g (lz x n bR) 3 (0,0)/\ae w aJ/\w.heap.size<=g from⟨by rw[cK];exact P9 _ _ _ _ _ _ k1,by rw[cK];exact XM aX (tM hg.symm) _,tM hg.symm⟩);have aa5:(n:Int)<=12:=G;have cX:=I bA;have HG:=I hg;have ub:=I sp;have S5:=I xE;clear xE bA k1 aX rG je cK hg sp;go_in;go_wp2_with fail;refine eO eU.o ?_;have xE:∀kp,(If #[41,41] kp #[E (A (B w.heap.size 0)) n n,E (A (B ai 0)) 1 1]).run aa (w.alloc (an (c6 c (d5 n 0)) 3))= .ok (r c bR) aJ:=by rw[<-cX.o,<-HG.o];exact S5.o
 go_wp2_with fail;clear xE jT;rw[<-HG.o];go_loopw [8] (λu wr=>∃m:Nat,u=r c m/\m<=n/\(0<n->0<m)/\aM (V wr g (lz x n m) 3 (0,0)/\ae w wr/\w.heap.size<=g)) (λu _=>n-(cu u).toNat)
 ·exact⟨bR,rfl,by rw[ub.o];omega,λh=>by rw[ub.o];omega,bZ⟩
 ·obtain⟨m,rfl,hm,lu,cW⟩:=hrel;by_cases a0:m<n
  ·have ie:(m:Int)<n:=G;obtain⟨q,aO⟩:=al (min m (n-m));obtain⟨U,ar⟩:=al (m+q);have Ea:=lu G;have yR:min (m+m) n=U:=G;have anp:∀u,(Ih 41 (E (A (B g 0)) n n) (A (r c m)) T T).run aa u= .ok (E (A (B g m)) (n-m) (n-m)) u:=λu=>by
    have ht:prog.underlying 41=A (.slice (prog.elem 41)):=by
     have he:prog.elem 41=3:=bq;rw[he];exact nG
    rw[run_slice_l u 41 (A (B g 0)) n n ht c m G G];have aB:(sizeOf (prog.elem 41)).run aa u= .ok 1 u:=bq;rw[aB];have b9:¬n=m:=G;have JB:¬m=0:=G;simp[o5,sliced,b9,JB,ym]
   have anq:∀u,(Ih 41 (E (A (B g 0)) n n) T (A (r c m)) T).run aa u= .ok (E (A (B g 0)) m n) u:=λu=>Ro 41 3 _ n n m nG rfl hm u;have JC:aM (∀u,ae wr u->∀kp,(If #[41,41] kp #[E (A (B g m)) (n-m) (n-m),E (A (B g 0)) m n]).run aa u= .ok (r c q) (u.setRow g (lz x n (min (m+m) n)))):=λu Z kp=>by
    have uc:=cW.o.1.aq Z;have h:=Qm (P:=aa) u 41 41 kp 3 g m (n-m) (n-m) (B g 0) m n _ _ (d5 q (r c x)) nG rfl uc (by rw[jD,aO]) (λj v av=>by
     obtain⟨wB,rp⟩:=r4.1 av;rw[jD] at wB;have a8:(B g 0:cp).add j=(B g j):=by unfold ym;split<;>simp_all
     rw[a8,uc.cell,aa2 _ _ _ _ G,<-rp,XL]) (by rw[jD,aa1 _ _ _ hm];omega) (λv aK=>by rw[Mb aK];rfl)
    rw[h,jD];have e:((lz x n m).toList.take m++d5 q (kK c x)++(lz x n m).toList.drop (m+q)).toArray=lz x n (min (m+m) n):=by
     rw[yR];unfold lz;simp only[];rw[aBC a3,Qp a3,aBD,aBE a3,f1,aBF,aBG,jD,<-ar,show n-m-(U-m)=n-U by omega]
    rw[e];rfl
   have tf:aM (∀u,ae wr u->True):=λ_ _=>trivial;have anr:(q:Int)<=12:=G;have Gq:(m:Int)<=12:=G;have S6:IntKind.i64.wrap ((m:Int)+(q:Int))=(U:Int):=by rw[ar,QK];exact o7 _ G
   have Ak:=ig yR Ea (show m<U/\U<=n by omega);clear aO ar lu yR Ea
   go_upto_region 9 with fail
   refine jQ (λD=>True) 7 rfl ?_;change ej _ _ _ _ _ _ _ 10 _ _ wr.drew;obtain⟨et,dm⟩:=al wr.drew;have aL:=I (show ae wr et by rw[dm];exact(bx _ _).drew);rw[<-dm];clear dm;refine ct 0 (r c m) (λ_=>tf.o _ aL.o) ?_;refine ct 1 (E (A (B g 0)) n n) (λ_=>tf.o _ aL.o) ?_;refine ct 2 (r c m) (λ_=>tf.o _ aL.o) ?_;refine ct 3 (E (A (B g m)) (n-m) (n-m)) (λ_=>tf.o _ aL.o) ?_;refine ct 4 (E (A (B g 0)) n n) (λ_=>tf.o _ aL.o) ?_;refine ct 5 (r c m) (λ_=>tf.o _ aL.o) ?_;refine ct 6 (E (A (B g 0)) m n) (λ_=>tf.o _ aL.o) ?_;refine dJ 7 ?_;have G0:=JC.o et aL.o;obtain⟨bD,gm⟩:=al (et.setRow g (lz x n (min (m+m) n)));rw[<-gm] at G0;refine gD (r c q) bD ?_;refine⟨gj,?_⟩;simp only[bN,bM,bO];repeat refine ea ?_
   refine fc ?_;have c9:=I (show V bD g (lz x n U) 3 (0,0)/\ae w bD/\w.heap.size<=g from by
    have e:=Ak.o.1;rw[e] at gm;rw[gm];exact⟨P9 _ _ _ _ _ _ (cW.o.1.aq aL.o),XM (cW.o.2.1.next' aL.o) cW.o.2.2 _,cW.o.2.2⟩)
   clear G0 gm aL JC S6;go_roundw
   ·(repeat apply aBH);exact⟨⟨U,rfl,Ak.o.2.2.2,λ_=>(bI Ak.o),c9⟩,rfl⟩
   ·have:=Ak.o;simp[cu];omega
  ·obtain rfl:m=n:=G;clear lu;go_wp2_with fail;go_ret;refine⟨g,rfl,?_,cW.o.2.2,cW.o.2.1⟩;have h:=cW.o.1;rw[aa3] at h;exact h
def pk (R:Int) (p:Int->Int) (L:List bw) (bc:Int->Option Int) (C:List Int):Prop:=∀x:bw,x∈L↔∃d,bc x.1=A d/\x.1∉C/\x.2=R*d+p x.1
theorem pk.key {p:Int->Int} (h:pk R p L bc C) (aw:bc v=A d) (ah:v∉C):(v,R*d+p v)∈L:=(h _).2 ⟨d,aw,ah,rfl⟩
theorem pk.label {p:Int->Int} (h:pk R p L bc C) (hm:(v,k)∈L):∃d,bc v=A d/\v∉C/\k=R*d+p v:=(h _).1 hm
theorem pk.set {p:Int->Int} (h:pk R p L bc C) (az:y∉C) (hm:∀x:bw,x∈c'↔x=(y,R*d+p y)\/(x∈L/\x.1≠y)):pk R p c' (gb bc y d) C:=λx=>by
 rw[hm];by_cases e:x.1=y
 ·rw[e,nc];constructor
  ·rintro(rfl|⟨_,h2⟩)
   ·exact⟨d,rfl,az,rfl⟩
   ·exact absurd rfl h2
  ·rintro⟨dS,h1,_,ap⟩;obtain rfl:=eT h1;exact .inl (XN e ap)
 ·rw[kG _ _ e,h];constructor
  ·rintro(rfl|⟨h1,_⟩)
   ·exact absurd rfl e
   ·exact h1
  ·exactλh1=> .inr ⟨h1,e⟩
theorem pk.pop {p:Int->Int} (h:pk R p L bc C) (hm:∀x:bw,x∈c'↔x∈L/\x.1≠v):pk R p c' bc (C++[v]):=λx=>by
 rw[hm,h];constructor
 ·rintro⟨⟨d,h1,h2,ap⟩,bl⟩;exact⟨d,h1,λah=>(fJ.1 ah).elim h2 λah=>bl (f2.1 ah),ap⟩
 ·rintro⟨d,h1,h2,ap⟩;exact⟨⟨d,h1,λah=>h2 (fJ.2 (.inl ah)),ap⟩,λe=>h2 (fJ.2 (.inr (f2.2 e)))⟩
theorem nt.Ji (h:nt Q s bc C) (ah:0<R) {p:Int->Int} (aP:∀a∈Q,p a.1<=R*a.2.2+p a.2.1) (hL:pk R p L bc C) (hm:(v,k)∈L) (tZ:∀x∈L,k<=x.2):
 ∃d,bc v=A d/\v∉C/\k=R*d+p v/\f_ Q s v d/\sm Q s bc C v d []:=by
 obtain⟨d,h1,h2,ap⟩:=hL.label hm;have a9:=h.pop ah aP h2 h1 (λx kv ak aw=>by rw[<-ap];exact tZ _ (hL.key aw ak));exact⟨d,h1,h2,ap,a9,h.scan h1 a9⟩
theorem nt.empty (h:nt Q s bc C) {p:Int->Int} (hL:pk R p [] bc C) {e:Int} (bU:dP Q s t e):t∈C:=
 h.done (λx kv ak=>by
  by_cases ah:x∈C
  ·exact ah
  ·exact absurd (hL.key ak ah) a3) bU
theorem nt.anu (h:nt Q s bc C) {p:Int->Int} (hL:pk R p [] bc C) (v:Int):(v∈C/\∃d,bc v=A d/\f_ Q s v d/\c1 Q s v=d)\/(v∉C/\c1 Q s v=72057594037927936):=by
 by_cases ah:v∈C
 ·obtain⟨d,a9⟩:=h.labelled v ah;have:=h.exact v ah d a9;exact .inl ⟨ah,d,a9,this,sl this⟩
 ·exact .inr ⟨ah,z_ λd bU=>ah (h.empty hL bU)⟩
def nW (arcs:List bd) (s:Int) (bc:Int->Option Int) (C:List Int) (cA:Int->Int):Prop:=
 ∀v d,bc v=A d->(v=s/\cA v=-1)\/∃n:Nat,∃h:n<arcs.length,cA v=(n:Int)/\arcs[n].2.1=v/\arcs[n].1∈C/\(∃e,bc arcs[n].1=A e)/\(v∈C->C.idxOf arcs[n].1<C.idxOf v)
def Al (cA:Int->Int) (y n:Int):Int->Int:=λx=>if x=y then n else cA x
theorem nW.begin (arcs:List bd) (s:Int) (cA:Int->Int) (h:cA s=-1):nW arcs s (gb (λ_=>T) s 0) [] cA:=λv d aK=>by
 by_cases e:v=s
 ·subst e;exact .inl ⟨rfl,h⟩
 ·rw[kG _ _ e] at aK;cases aK
theorem aa9 (h:x∈C):(C++[v]).idxOf x=C.idxOf x:=by
 rw[L7,if_pos h]
theorem anv (h:v∉C):(C++[v]).idxOf v=C.length:=by
 rw[L7,if_neg h];simp
theorem nW.close (h:nW arcs s bc C cA) (aK:v∉C):nW arcs s bc (C++[v]) cA:=λx d ak=>by
 rcases h x d ak with h1|⟨n,aC,h1,h2,ap,bl,cL⟩
 ·exact .inl h1
 ·refine .inr ⟨n,aC,h1,h2,fJ.2 (.inl ap),bl,λah=>?_⟩;rw[aa9 ap];rcases fJ.1 ah with ah|ah
  ·rw[aa9 ah];exact cL ah
  ·obtain rfl:=f2.1 ah;rw[anv aK];exact Ip ap
theorem nW.set (h:nW arcs s bc C cA) (aC:n<arcs.length) (l:Int) (ah:arcs[n].1∈C) (aw:∃e,bc arcs[n].1=A e) (az:arcs[n].2.1∉C):
 nW arcs s (gb bc arcs[n].2.1 l) C (Al cA arcs[n].2.1 (n:Int)):=λx d ak=>by
 have a_:∀z,(∃e,bc z=A e)->∃e,gb bc arcs[n].2.1 l z=A e:=λz ⟨e,b5⟩=>by
  by_cases aa_:z=arcs[n].2.1
  ·exact⟨l,by rw[aa_];exact nc _ _ _⟩
  ·exact⟨e,by rw[kG _ _ aa_];exact b5⟩
 by_cases e:x=arcs[n].2.1
 ·subst e;refine .inr ⟨n,aC,if_pos rfl,rfl,ah,a_ _ aw,λhm=>absurd hm az⟩
 ·rw[kG _ _ e] at ak;have sn:Al cA arcs[n].2.1 (n:Int) x=cA x:=if_neg e;rw[sn];rcases h x d ak with h1|⟨m,hm,h1,h2,ap,bl,cL⟩
  ·exact .inl h1
  ·exact .inr ⟨m,hm,h1,h2,ap,a_ _ bl,cL⟩
def G1 (C:List Int) (v:Int):Nat:=if v∈C then C.idxOf v else C.length
theorem aa' (C:List Int) (v:Int):G1 C v<=C.length:=by
 unfold G1;split
 ·rename_i h;exact L0 (Ip h)
 ·exact bY _
theorem nW.back (h:nW arcs s bc C cA) (aK:bc v=A d):
 (v=s/\cA v=-1)\/∃n:Nat,∃aC:n<arcs.length,cA v=(n:Int)/\arcs[n].2.1=v/\(∃e,bc arcs[n].1=A e)/\G1 C arcs[n].1<G1 C v:=by
 rcases h v d aK with h1|⟨n,aC,h1,h2,ap,bl,cL⟩
 ·exact .inl h1
 ·refine .inr ⟨n,aC,h1,h2,bl,?_⟩;unfold G1;rw[if_pos ap];split
  ·rename_i ah;exact cL ah
  ·exact Ip ap
theorem S8 (h:C.Nodup) (aK:v∉C):(C++[v]).Nodup:=by
 rw[A'];exact⟨h,a3,λx ak y az=>by rw[f2.1 az];exactλe=>aK (e▸ak)⟩
def oZ (aS:List Int) (v:Int):Int:=aS[v.toNat]?.getD (-1)
theorem aba {aS:List Int} {n:Int} (az:0<=y/\y<aS.length) (aK:0<=v):oZ (aS.set y.toNat n) v=Al (oZ aS) y n v:=by
 unfold oZ Al;by_cases e:v=y
 ·subst e;rw[if_pos rfl,tJ G];rfl
 ·rw[if_neg e,uM G]
theorem nW.congr {f g:Int->Int} (h:nW arcs s bc C f) (he:∀v d,bc v=A d->f v=g v):nW arcs s bc C g:=λv d aK=>by
 rw[<-he v d aK];exact h v d aK
def xG (bc:Int->Option Int) (N:Nat):Prop:=∀v d,bc v=A d->0<=v/\v<N
def abb (Q:List bd) (s:Int) (N:Nat) (b4 C:List Int):Prop:=b4.length=N/\∀i:Nat,i<N->((i:Int)∈C->∃d,b4[i]? =A d/\f_ Q s i d)/\((i:Int)∉C->b4[i]? =A 72057594037927936)
def wD (Q:List bd) (s:Int) (N:Nat) (L:List bw) (b4 aS C:List Int):Prop:=
 ∃bc,nt Q s bc C/\pk 1 (λ_=>0) L bc C/\nW Q s bc C (oZ aS)/\xG bc N/\C.Nodup/\abb Q s N b4 C/\aS.length=N
def xH (Q:List bd) (s:Int) (N:Nat) (v cU:Int) (S:List bd) (L:List bw) (b4 aS C:List Int):Prop:=
 ∃bc,sm Q s bc C v cU S/\pk 1 (λ_=>0) L bc (C++[v])/\nW Q s bc (C++[v]) (oZ aS)/\xG bc N/\(C++[v]).Nodup/\abb Q s N b4 (C++[v])/\aS.length=N
theorem NO (h:pk 1 (λ_=>0) L bc C) (v k:Int):(v,k)∈L↔bc v=A k/\v∉C:=by
 have q:=h (v,k);rw[q];constructor
 ·rintro⟨d,h1,h2,ap⟩;simp at ap;subst ap;exact⟨h1,h2⟩
 ·rintro⟨h1,h2⟩;exact⟨k,h1,h2,a3⟩
theorem wD.begin (Q:List bd) (s:Int) (N:Nat) (aB:0<=s/\s<N) (hL:∀x,x∈L↔x=(s,0)):wD Q s N L (d5 N 72057594037927936) (d5 N (-1)) []:=by
 have hb:∀v,oZ (d5 N (-1)) v=-1:=λv=>by
  unfold oZ;rw[Il];split<;>rfl
 refine⟨_,nt.begin Q s,λx=>?_,nW.begin _ _ _ (hb s),λv d h=>?_,QM,⟨jD,λi ag=>⟨gj,λ_=>by rw[Il,if_pos ag]⟩⟩,jD⟩
 ·rw[hL];constructor
  ·rintro rfl;exact⟨0,nc _ _ _,a3,a3⟩
  ·rintro⟨d,h1,_,ap⟩;by_cases e:x.1=s
   ·rw[e,nc] at h1;obtain rfl:=eT h1;exact XN e (by simpa using ap)
   ·rw[kG _ _ e] at h1;cases h1
 ·by_cases e:v=s
  ·subst e;exact aB
  ·rw[kG _ _ e] at h;cases h
theorem wD.hS {b4 aS:List Int} (h:wD Q s N L b4 aS C):C.length<=N/\(∀v∈C,0<=v/\v<N)/\C.Nodup:=by
 obtain⟨bc,h1,h2,ap,bl,cL,eI,gu⟩:=h;have ar:∀v∈C,0<=v/\v<(N:Int):=λv aK=>by
  obtain⟨d,a9⟩:=h1.labelled v aK;exact bl v d a9
 exact⟨t6 N C cL ar,ar,cL⟩
theorem wD.pop {b4 aS:List Int} (h:wD Q s N L b4 aS C) (bU:∀a∈Q,0<=a.2.2) (hm:(v,k)∈L) (tZ:∀x∈L,k<=x.2) (vn:∀x,x∈c'↔x∈L/\x.1≠v):
 v∉C/\(0<=v/\v<N)/\f_ Q s v k/\(C++[v]).length<=N/\xH Q s N v k [] c' (b4.set v.toNat k) aS C:=by
 obtain⟨bc,h1,h2,ap,bl,cL,eI,gu⟩:=h;obtain⟨d,q1,q2,bm,cZ,ek⟩:=h1.Ji G (λa ha=>by have:=bU a ha;omega) h2 hm tZ;have S9:k=d:=by simp at bm;exact bm
 subst S9;have ar:=bl v k q1;have hnd:=S8 cL q2;refine⟨q2,ar,cZ,?_,bc,ek,h2.pop vn,ap.close q2,bl,hnd,⟨by rw[gN];exact eI.1,λi ag=>?_⟩,gu⟩
 ·refine t6 N _ hnd λx ak=>?_;rcases fJ.1 ak with ak|ak
  ·obtain⟨d,a9⟩:=h1.labelled x ak;exact bl x d a9
  ·rw[f2.1 ak];exact ar
 ·by_cases e:(i:Int)=v
  ·have Jh:i=v.toNat:=G;refine⟨λ_=>⟨k,by rw[<-Jh,tJ (by rw[eI.1];exact ag)],by rw[e];exact cZ⟩,λaC=>absurd (fJ.2 (.inr (f2.2 e))) aC⟩
  ·have b9:v.toNat≠i:=G;rw[uM b9];refine⟨λah=>?_,λah=>(eI.2 i ag).2 λhm=>ah (fJ.2 (.inl hm))⟩;rcases fJ.1 ah with ah|ah
   ·exact(eI.2 i ag).1 ah
   ·exact absurd (f2.1 ah) e
theorem xH.step {cU:Int} {S:List bd} {b4 aS:List Int} (h:xH Q s N v cU S L b4 aS C) (bU:∀a∈Q,0<=a.2.2) (aC:n<Q.length) (aK:Q[n].1=v) (az:0<=Q[n].2.1/\Q[n].2.1<N):
 (((Q[n].2.1∈C++[v]/\∀k,(Q[n].2.1,k)∉L)\/(Q[n].2.1∉C++[v]/\∃k,(Q[n].2.1,k)∈L/\k<=cU+Q[n].2.2))/\xH Q s N v cU (S++[Q[n]]) L b4 aS C)\/
 (Q[n].2.1∉C++[v]/\(∀k,(Q[n].2.1,k)∈L->cU+Q[n].2.2<k)/\∀c':List bw,(∀x,x∈c'↔x=(Q[n].2.1,cU+Q[n].2.2)\/(x∈L/\x.1≠Q[n].2.1))->xH Q s N v cU (S++[Q[n]]) c' b4 (aS.set Q[n].2.1.toNat n) C):=by
 obtain⟨bc,h1,h2,ap,bl,cL,eI,gu⟩:=h;have ha:Q[n]∈Q:=gB aC;by_cases ah:Q[n].2.1∈C++[v]
 ·exact .inl ⟨.inl ⟨ah,λk K=>((NO h2 _ _).1 K).2 ah⟩,bc,h1.closed ha aK ah,h2,ap,bl,cL,eI,gu⟩
 ·by_cases a9:∃d,bc Q[n].2.1=A d/\d<=cU+Q[n].2.2
  ·obtain⟨d,a9,hle⟩:=a9;exact .inl ⟨.inr ⟨ah,d,(NO h2 _ _).2 ⟨a9,ah⟩,hle⟩,bc,h1.a_ a9 hle,h2,ap,bl,cL,eI,gu⟩
  ·have a0:∀d,bc Q[n].2.1=A d->cU+Q[n].2.2<d:=λd fy=>by
    by_cases q:d<=cU+Q[n].2.2
    ·exact absurd ⟨d,fy,q⟩ a9
    ·omega
   refine .inr ⟨ah,λk K=>a0 k ((NO h2 _ _).1 K).1,λc' vn=>?_⟩;have JD:Q[n].2.1∉C:=λhm=>ah (fJ.2 (.inl hm));have nU:Q[n].2.1≠v:=λe=>ah (fJ.2 (.inr (f2.2 e)));refine⟨_,h1.set bU ha aK JD nU a0,h2.set ah (d:=cU+Q[n].2.2) (by simpa using vn),?_,λx d ak=>?_,cL,eI,by rw[gN];exact gu⟩
   ·refine(ap.set aC (cU+Q[n].2.2) (by rw[aK];exact fJ.2 (.inr (f2.2 rfl))) ⟨cU,by rw[aK];exact h1.own⟩ ah).congr λx d ak=>?_;refine(aba ⟨az.1,by rw[gu];exact az.2⟩ ?_).symm;by_cases e:x=Q[n].2.1
    ·rw[e];exact az.1
    ·rw[kG _ _ e] at ak;exact(bl x d ak).1
   ·by_cases e:x=Q[n].2.1
    ·rw[e];exact az
    ·rw[kG _ _ e] at ak;exact bl x d ak
theorem xH.end {cU:Int} {S:List bd} {b4 aS:List Int} (h:xH Q s N v cU S L b4 aS C) (cb:∀a∈Q,a.1=v->a∈S):wD Q s N L b4 aS (C++[v]):=by
 obtain⟨bc,h1,h2,ap,bl,cL,eI,gu⟩:=h;exact⟨bc,h1.end cb,h2,ap,bl,cL,eI,gu⟩
structure vo (Q:List bd) (s:Int) (N:Nat) (b4 aS C:List Int):Prop where
 tg:b4.length=N
 yS:aS.length=N
 b4:∀i:Nat,i<N->b4[i]? =A (c1 Q s i)
 hS:∀v∈C,0<=v/\v<N
 nodup:C.Nodup
 tree:∀v∈C,(v=s/\oZ aS v=-1)\/∃n:Nat,∃h:n<Q.length,oZ aS v=(n:Int)/\Q[n].2.1=v/\Q[n].1∈C/\C.idxOf Q[n].1<C.idxOf v
 start:s∈C
 reach:∀v∈C,c1 Q s v<72057594037927936\/∃d,f_ Q s v d
theorem wD.done {b4 aS:List Int} (h:wD Q s N L b4 aS C) (hL:∀x,x∉L):vo Q s N b4 aS C:=by
 have ar:=h.hS;obtain⟨bc,h1,h2,ap,bl,cL,eI,gu⟩:=h;obtain rfl:L=[]:=XK.2 hL;refine⟨eI.1,gu,λi ag=>?_,ar.2.1,cL,λv aK=>?_,?_,λv aK=>?_⟩
 ·rcases h1.anu h2 (i:Int) with⟨k1,d,k2,k3,k4⟩|⟨k1,k2⟩
  ·obtain⟨e,q1,q2⟩:=(eI.2 i ag).1 k1;rw[k4,q1,q2.uniq k3]
  ·rw[k2];exact(eI.2 i ag).2 k1
 ·obtain⟨d,a9⟩:=h1.labelled v aK;rcases ap v d a9 with q|⟨n,aC,q1,q2,bm,cZ,ek⟩
  ·exact .inl q
  ·exact .inr ⟨n,aC,q1,q2,bm,ek aK⟩
 ·exact h1.done (λx kv ak=>by
   by_cases ah:x∈C
   ·exact ah
   ·exact absurd ((NO h2 x kv).2 ⟨ak,ah⟩) a3) .nil
 ·obtain⟨d,a9⟩:=h1.labelled v aK;exact .inr ⟨d,h1.exact v aK d a9⟩
theorem kq.mono {abc:Nat} (hle:abc<=ai):∀{ds:List j2} {w:O},kq ai w ds->kq abc w ds
 |[],_,_=>trivial
 |_::_,_,⟨⟨aF,e,h1,h2,ap⟩,h⟩=>⟨⟨aF,e,cM hle h1,h2,ap⟩,kq.mono hle h⟩
theorem kq.at:∀{ds:List j2} {w:O},kq ai w ds->∀d∈ds,∀aF,d={target:= .collected aF,args:=#[]}->w.heap[aF]? =A (.deferred (A []))
 |d::ds,w,⟨⟨aF,e,h1,h2,ap⟩,h⟩,dS,fy,e9,fm=>by
  rcases gg.1 fy with rfl|fy
  ·rw[e] at fm;have:aF=e9:=by simpa using fm
   subst this;exact h2
  ·exact kq.at h dS fy e9 fm
theorem Am {base:Nat} {e:cY} {size:Nat} {v:ac} {b7:List ac} (h:w.ownsRow base e size v n b7) (aw:∀k,v.ownBlock=A k->am<=k):w.ownsRow am e size v n b7:=by
 obtain⟨h1,h2⟩:=h;refine⟨h1,?_⟩;rcases h2 with h2|⟨g,R,cur,a4,ap,bl⟩
 ·exact .inl h2
 ·exact .inr ⟨g,R,cur,a4,aw g (by rw[a4];rfl),bl⟩
theorem dP.row {g:Raw} (h:dP g.arcs s t d):∃M l,mn g s M=A l/\ws s l=t/\tN g M=d:=by
 induction h with
 |nil=>exact⟨[],[],rfl,rfl,rfl⟩
 |@snoc u d a Z ha he d4=>
  obtain⟨M,l,h1,h2,ap⟩:=d4;obtain⟨i,ag,e⟩:=FL.1 ha;have a8:kE g i=A a:=by unfold kE;rw[if_pos ⟨G,G⟩,ko,eA ag,e]
  refine⟨M++[(i:Int)],l++[a.2.1],?_,Z7 _ _ _,?_⟩
  ·rw[alT h1,a8];dsimp only;rw[if_pos (he.trans h2.symm)]
  ·rw[alO,ap]
   congr 1
   unfold tN;rw[zy,LO,aiv,List.sum_nil,a8,Int.add_zero];rfl
theorem dP.abW {g:Raw}:∀{M l:List Int} {s:Int},mn g s M=A l->dP g.arcs s (ws s l) (tN g M)
 |[],l,s,h=>by cases h;exact .nil
 |i::M,l,s,h=>by
  obtain⟨a,i3,h1,h2,ap,rfl⟩:=GC h;have ha:a∈g.arcs:=by
   unfold kE at h1;split at h1
   ·exact L9 h1
   ·cases h1
  have d4:=dP.abW ap;have bl:=(dP.one ha).trans d4;rw[h2] at bl;rw[Nq];have e:tN g (i::M)=a.2.2+tN g M:=by
   unfold tN;rw[zy,aiv,h1];rfl
  rw[e];exact bl
theorem f_.bound {g:Raw} (bK:g.e2) (aB:0<=s/\s<g.nodes) (h:f_ g.arcs s t d):0<=d/\d<72057594037927936:=by
 refine⟨h.1.s8 (λa ha=>(bK.aS a ha).2.2.1),?_⟩;obtain⟨M,l,h1,h2,ap⟩:=h.1.row;obtain⟨abX,Nk,_⟩:=alR h1;obtain⟨lb,k1,k2,k3⟩:=abX.last;have hlen:=Z8 k2;have hnd:=abX.nodup;rw[k1] at hnd;have aC:=t6 g.nodes.toNat (s::lb) hnd (λv aK=>by
  rcases gg.1 aK with rfl|aK
  ·omega
  ·have:=Z' (λa ha=>(bK.aS a ha).2.1) k2 v aK;omega)
 rw[fV] at aC;have bU:=alS (g:=g) (λa ha=>(bK.aS a ha).2.2) (Nr s (M.zip l)).2;have ar:=dP.abW k2;rw[<-k3,Nk,h2] at ar;have:=h.2 _ ar;have:=bK.nodes;omega
noncomputable def pn (Q:List bd) (s t:Int):Int×Int:=if c1 Q s t<72057594037927936 then(0,c1 Q s t) else(20,0)
theorem vu {g:Raw} (bK:g.e2) (aB:0<=s/\s<g.nodes):(∃d,f_ g.arcs s t d/\c1 g.arcs s t=d/\0<=d/\d<72057594037927936)\/((∀d,¬dP g.arcs s t d)/\c1 g.arcs s t=72057594037927936):=by
 by_cases h:∃d,dP g.arcs s t d
 ·obtain⟨d,h⟩:=h;obtain⟨e,h⟩:=f_.BU (λa ha=>(bK.aS a ha).2.2.1) h;exact .inl ⟨e,h,sl h,h.bound bK aB⟩
 ·have h:∀d,¬dP g.arcs s t d:=λd a9=>h ⟨d,a9⟩;exact .inr ⟨h,z_ h⟩
theorem aoq {g:Raw} (bK:g.e2) (s:Int):c1 g.arcs s s=0:=sl ⟨.nil,λ_ h=>h.s8 (λa ha=>(bK.aS a ha).2.2.1)⟩
theorem Tv {ai:List bd} (h:∀d,dP Q s t d↔dP ai u v d):c1 Q s t=c1 ai u v:=by
 have e:(λd=>f_ Q s t d)=λd=>f_ ai u v d:=by
  funext d;apply propext;unfold f_;constructor
  ·rintro⟨h1,h2⟩;exact⟨(h d).1 h1,λdS k=>h2 dS ((h dS).2 k)⟩
  ·rintro⟨h1,h2⟩;exact⟨(h d).2 h1,λdS k=>h2 dS ((h dS).1 k)⟩
 by_cases ak:∃d,f_ Q s t d
 ·obtain⟨d,a9⟩:=ak;rw[sl a9,sl (show f_ ai u v d from(congrFun e d)▸a9)]
 ·unfold c1;rw[dif_neg ak,dif_neg];rintro⟨d,a9⟩;exact ak ⟨d,(congrFun e d)▸a9⟩
theorem dP.open {ai:List bd} {o:Int->Prop} (cd:∀a∈Q,o a.2.1->a∈ai) (aQ:∀v e,dP Q v t e->o v) (h:dP Q s u d):∀e,dP Q u t e->dP ai s u d:=by
 induction h with
 |nil=>exactλ_ _=> .nil
 |@snoc u d a Z ha he d4=>
  intro e bU;refine dP.snoc a (d4 (a.2.2+e) ?_) (cd a ha (aQ _ _ bU)) he;subst he;exact(dP.one ha).trans bU
theorem aor {ai:List bd} {o:Int->Prop} (cd:∀a∈Q,o a.2.1->a∈ai) (Ek:∀a∈ai,a∈Q) (aQ:∀v e,dP Q v t e->o v) (s:Int):c1 ai s t=c1 Q s t:=
 Tv λ_=>⟨dP.mono Ek,λh=>h.open cd aQ 0 .nil⟩
theorem dP.tight {ai:List bd} {b d0:Int} (h0:f_ Q s b d0) (cd:∀a∈Q,∀e,f_ Q a.2.1 b e->f_ Q a.1 b (a.2.2+e)->a∈ai) (h:dP Q s u d):∀e,f_ Q u b e->d+e=d0->dP ai s u d:=by
 induction h with
 |nil=>exactλ_ _ _=> .nil
 |@snoc u d a Z ha he d4=>
  intro e bU a9;have bS:f_ Q a.1 b (a.2.2+e):=by
   refine⟨(dP.one ha).trans bU.1,λx ak=>?_⟩;rw[he] at ak;have:=h0.2 _ (Z.trans ak);omega
  exact dP.snoc a (d4 (a.2.2+e) (he▸bS) G) (cd a ha e bU bS) he
theorem dP.flags {ai:List bd} (bU:∀a∈Q,0<=a.2.2) {cell:Int->Prop} (nM:∀a∈Q,cell a.1->cell a.2.1->a∈ai)
 (ht:∀x∈Q,cell x.2.1->¬cell x.1->∀a∈Q,∀e,f_ Q a.2.1 x.2.1 e->f_ Q a.1 x.2.1 (a.2.2+e)->a∈ai) (h:dP Q s t d):cell t->∃dS,dS<=d/\dP ai s t dS:=by
 induction h with
 |nil=>exactλ_=>⟨0,rZ _,.nil⟩
 |@snoc u d a Z ha he d4=>
  intro ah;by_cases Tw:cell a.1
  ·obtain⟨dS,h1,h2⟩:=d4 (he▸Tw);exact⟨dS+a.2.2,G,h2.snoc a (nM a ha Tw ah) he⟩
  ·have wt:=Z.snoc a ha he;obtain⟨d0,h0⟩:=f_.BU bU wt;exact⟨d0,h0.2 _ wt,dP.tight h0 (ht a ha ah Tw) h0.1 0 ⟨.nil,λx ak=>ak.s8 bU⟩ G⟩
theorem aos {ai:List bd} (bU:∀a∈Q,0<=a.2.2) (Ek:∀a∈ai,a∈Q) {cell:Int->Prop} (nM:∀a∈Q,cell a.1->cell a.2.1->a∈ai)
 (ht:∀x∈Q,cell x.2.1->¬cell x.1->∀a∈Q,∀e,f_ Q a.2.1 x.2.1 e->f_ Q a.1 x.2.1 (a.2.2+e)->a∈ai) (s:Int) (ah:cell t):c1 ai s t=c1 Q s t:=by
 by_cases h:∃d,dP Q s t d
 ·obtain⟨d,h⟩:=h;obtain⟨d0,h0⟩:=f_.BU bU h;obtain⟨dS,h1,h2⟩:=h0.1.flags bU nM ht ah;have ap:=h0.2 _ (h2.mono Ek);obtain rfl:dS=d0:=G;rw[sl h0,sl ⟨h2,λx ak=>h0.2 x (ak.mono Ek)⟩]
 ·rw[z_ (λd a9=>h ⟨d,a9⟩),z_ (λd a9=>h ⟨d,a9.mono Ek⟩)]
def iw (x:Int):Int:=min (max x 0) 72057594037927936
def o0 (v t:Int):Int:=if iw t<72057594037927936 then(if iw v<72057594037927936 then iw (iw v-iw t) else 72057594037927936) else 0
theorem El (x:Int):0<=iw x/\iw x<=72057594037927936:=by unfold iw;omega
theorem qy (h:0<=x/\x<=72057594037927936):iw x=x:=by unfold iw;omega
theorem abY (v t:Int):0<=o0 v t/\o0 v t<=72057594037927936:=by
 unfold o0;have:=El (iw v-iw t);split
 ·split<;>omega
 ·omega
structure ny (g:Raw) (Q:List bd) (t:Int) (p:Int->Int):Prop where
 range:∀v,0<=p v/\p v<=72057594037927936
 aS:∀a∈Q,p a.2.1<72057594037927936->p a.1<=a.2.2+p a.2.1
 least:∀v d,0<=v/\v<g.nodes->f_ Q v t d->p v<=d/\d<72057594037927936
theorem Raw.e2.s8 {g:Raw} (bK:g.e2):∀a∈g.arcs,0<=a.2.2:=λa ha=>(bK.aS a ha).2.2.1
theorem ny.zero {g:Raw} (bK:g.e2) (t:Int):ny g g.arcs t λ_=>0:=
 ⟨λ_=>G,λa ha _=>by have:=bK.s8 a ha;omega,λv d aK h=>h.bound bK aK⟩
theorem ny.max {g:Raw} {p q:Int->Int} (h:ny g Q t p) (k:ny g Q t q):ny g Q t λv=>Max.max (p v) (q v):=by
 refine⟨λv=>?_,λa ha aw=>?_,λv d aK a9=>?_⟩
 ·have:=h.range v;have:=k.range v;omega
 ·have:=h.aS a ha;have:=k.aS a ha;omega
 ·have:=h.least v d aK a9;have:=k.least v d aK a9;omega
theorem wG {g:Raw} (bK:g.e2) (aB:0<=s/\s<g.nodes) (t:Int):0<=c1 g.arcs s t/\c1 g.arcs s t<=72057594037927936:=by
 rcases vu bK (t:=t) aB with⟨d,_,h2,ap,bl⟩|⟨_,h2⟩<;>omega
theorem ny.low {g:Raw} (bK:g.e2) {m:Int} (ht:0<=t/\t<g.nodes):ny g g.arcs t λv=>o0 (c1 g.arcs v m) (c1 g.arcs t m):=by
 refine⟨λv=>abY _ _,λa ha aw=>?_,λv d aK a9=>?_⟩
 ·obtain⟨h1,h2,ap,_⟩:=bK.aS a ha;have r1:=wG bK h1 m;have r2:=wG bK h2 m;have eC:=wG bK ht m;unfold o0 at aw⊢;rw[qy r1,qy eC];rw[qy r2,qy eC] at aw;rw[qy r2];rcases vu bK (t:=m) h2 with⟨d,k1,k2,k3,k4⟩|⟨k1,k2⟩
  ·rcases vu bK (t:=m) h1 with⟨e,q1,q2,bm,cZ⟩|⟨q1,q2⟩
   ·have hle:=q1.2 _ ((dP.one ha).trans k1.1);rw[k2,q2] at*;unfold iw;split<;>(try split)<;>omega
   ·exact absurd ((dP.one ha).trans k1.1) (q1 _)
  ·rw[k2] at aw⊢;split at aw
   ·simp at aw
   ·rename_i hh;rw[if_neg hh,if_neg hh];omega
 ·have sr:=a9.bound bK aK;refine⟨?_,sr.2⟩;have r1:=wG bK aK m;have eC:=wG bK ht m;unfold o0;rw[qy r1,qy eC];rcases vu bK (t:=m) ht with⟨e,q1,q2,bm,cZ⟩|⟨q1,q2⟩
  ·rcases vu bK (t:=m) aK with⟨f,k1,k2,k3,k4⟩|⟨k1,k2⟩
   ·have hle:=k1.2 _ (a9.1.trans q1.1);rw[k2,q2,if_pos cZ,if_pos k4];unfold iw;omega
   ·exact absurd (a9.1.trans q1.1) (k1 _)
  ·rw[q2,if_neg G];exact sr.1
theorem ny.lift {g:Raw} (bK:g.e2) {m:Int} (hm:0<=m/\m<g.nodes):ny g g.arcs t λv=>o0 (c1 g.arcs m t) (c1 g.arcs m v):=by
 refine⟨λv=>abY _ _,λa ha aw=>?_,λv d aK a9=>?_⟩
 ·obtain⟨h1,h2,ap,_⟩:=bK.aS a ha;have r1:=wG bK hm a.1;have r2:=wG bK hm a.2.1;have eC:=wG bK hm t;unfold o0 at aw⊢;rw[qy r1,qy eC];rw[qy r2,qy eC] at aw;rw[qy r2];rcases vu bK (t:=a.1) hm with⟨e,q1,q2,bm,cZ⟩|⟨q1,q2⟩
  ·rcases vu bK (t:=a.2.1) hm with⟨d,k1,k2,k3,k4⟩|⟨k1,k2⟩
   ·have hle:=k1.2 _ (q1.1.snoc a ha rfl);rw[k2,if_pos k4] at aw;rw[k2,q2,if_pos cZ,if_pos k4];split at aw
    ·rename_i hh;rw[if_pos hh,if_pos hh];unfold iw;omega
    ·simp at aw
   ·exact absurd (q1.1.snoc a ha rfl) (k1 _)
  ·rw[q2,if_neg (show¬(72057594037927936:Int)<72057594037927936 by omega)];have:=El (c1 g.arcs m t-c1 g.arcs m a.2.1);split
   ·split<;>omega
   ·omega
 ·have sr:=a9.bound bK aK;refine⟨?_,sr.2⟩;have r1:=wG bK hm v;have eC:=wG bK hm t;unfold o0;rw[qy r1,qy eC];rcases vu bK (t:=v) hm with⟨f,k1,k2,k3,k4⟩|⟨k1,k2⟩
  ·rcases vu bK (t:=t) hm with⟨e,q1,q2,bm,cZ⟩|⟨q1,q2⟩
   ·have hle:=q1.2 _ (k1.1.trans a9.1);rw[k2,q2,if_pos cZ,if_pos k4];unfold iw;omega
   ·exact absurd (k1.1.trans a9.1) (q1 _)
  ·rw[k2,if_neg G];exact sr.1
noncomputable def ug (Q:List bd) (m v w:Int):Int:=max (o0 (c1 Q v m) (c1 Q w m)) (o0 (c1 Q m w) (c1 Q m v))
noncomputable def jO (Q:List bd):List Int->Int->Int->Int
 |[],_,_=>0
 |m::l,v,w=>max (ug Q m v w) (jO Q l v w)
theorem ny.Cg {g:Raw} (bK:g.e2) (ht:0<=t/\t<g.nodes):∀l:List Int,(∀m∈l,0<=m/\m<g.nodes)->ny g g.arcs t λv=>jO g.arcs l v t
 |[],_=>ny.zero bK t
 |m::l,h=>((ny.low bK ht).max (ny.lift bK (h m uL))).max (ny.Cg bK ht l λm hm=>h m (uK _ hm))
theorem Tx (Q:List bd):∀(l:List Int) (v w:Int),jO (Q.map kF) l v w=jO Q l w v
 |[],_,_=>rfl
 |m::l,v,w=>by
  unfold jO;rw[Tx Q l v w]
  congr 1
  unfold ug;rw[BV,BV,BV,BV,Int.max_comm]
theorem N_ {g:Raw} (bK:g.e2):g.flip.e2:=by
 refine⟨bK.nodes,bK.yF,bK.yG,bK.x,bK.y,by unfold Raw.flip;rw[iT];exact bK.arcs,λa ha=>?_⟩;obtain⟨R,ah,rfl⟩:=jB.1 ha;obtain⟨h1,h2,ap⟩:=bK.aS R ah;exact⟨h2,h1,ap⟩
theorem aot {g:Raw} (bK:g.e2) (aB:0<=s/\s<g.nodes) (ht:0<=t/\t<g.nodes) (aw:∀m∈l,0<=m/\m<g.nodes) {a:bd} (ha:a∈g.arcs)
 (h1:jO g.arcs l a.2.1 t<72057594037927936) (h2:jO g.arcs l s a.1<72057594037927936):jO g.arcs l a.1 t-jO g.arcs l s a.1<=2*a.2.2+(jO g.arcs l a.2.1 t-jO g.arcs l s a.2.1):=by
 have k1:=(ny.Cg bK ht l aw).aS a ha h1;have k2:=(ny.Cg (N_ bK) (t:=s) aB l aw).aS (kF a) (QH ha);simp only[show g.flip.arcs=g.arcs.map kF from rfl,Tx] at k2;have k3:jO g.arcs l s a.2.1<=a.2.2+jO g.arcs l s a.1:=k2 h2;omega
theorem aou {g:Raw} (bK:g.e2) {e:Int} (aB:0<=s/\s<g.nodes) (ht:0<=t/\t<g.nodes) (aK:0<=v/\v<g.nodes) (aw:∀m∈l,0<=m/\m<g.nodes) (h1:dP g.arcs s v d) (h2:dP g.arcs v t e):
 jO g.arcs l v t<72057594037927936/\jO g.arcs l s v<72057594037927936:=by
 obtain⟨dS,h1⟩:=f_.BU bK.s8 h1;obtain⟨fm,h2⟩:=f_.BU bK.s8 h2;have k1:=(ny.Cg bK ht l aw).least v fm aK h2;have k2:=(ny.Cg (N_ bK) (t:=s) aB l aw).least v dS aK (f_.z9.2 h1);simp only[show g.flip.arcs=g.arcs.map kF from rfl,Tx] at k2;omega
def ui (w:O) (ai g n R:Nat):Prop:=∃aj:List Int,aj.length=n/\w.ownsRow ai 3 1 (E (A (B g 0)) n R) n (aj.flatMap ec)
theorem ui.cell {g R:Nat} (h:ui w ai g n R) (ag:i<n):∃x,w.cell? (B g i)=A (r c x)/\w.frozen? (B g i)=ao/\g<w.heap.size:=by
 obtain⟨aj,rfl,ar⟩:=h;obtain⟨b,off,e,d⟩:=(jv rfl ar).at i ag;obtain⟨_,cur,aO⟩:=di ar (g:=g) rfl;have:b=g/\off=0:=by injection e with e;injection e with br a4;exact⟨br.symm,a4.symm⟩
 obtain⟨rfl,rfl⟩:=this;rw[jC] at d;exact⟨_,d,aO.free i (.inr (cQ _)),aO.lt⟩
theorem ui.set {g R:Nat} (h:ui w ai g n R) (ag:i<n) (x:Int):ui (w.setCell (B g i) (r c x)) ai g n R:=by
 obtain⟨aj,rfl,ar⟩:=h;have q:=Bt ar i (r c x);have e:=DA 1 ec Bs aj i 0 x (r c x) ag G (λy _=>rfl);rw[FH,uH] at e;rw[e] at q;exact⟨aj.set i x,a3,q⟩
theorem ui.below {g R:Nat} (h:ui w ai g n R) (hb:ae w D):ui D ai g n R:=by
 obtain⟨aj,rfl,ar⟩:=h;exact⟨aj,rfl,fB ar λk K=>hb.block k (di ar K).2.choose_spec.lt⟩
theorem acd (ai g n R:Nat) (aC:n<=1000000) (w:O) (h:ui w ai g n R):aE aa 139 #[E (A (B g 0)) n R] w λe D=>e=au (b8 #[])/\ui D ai g n R/\Kept (λk=>k=g) w D:=by
 have jl:aM (ui w ai g n R/\Kept (λk=>k=g) w w):=I ⟨h,Kept.refl _ _⟩;clear h;have r':=ew n;go_in;go_wp2_with fail;go_loopw [2,3] (λx y wr=>∃(i:Nat) (j:Int),x=r c i/\y=r c j/\(i:Int)+j=n-1/\-1<=j/\aM (ui wr ai g n R/\Kept (λk=>k=g) w wr)) (λx y _=>(cu y-cu x).toNat)
 ·exact⟨0,(n:Int)-1,by go_num,by go_num,G,G,jl⟩
 ·obtain⟨i,j,rfl,rfl,alV,av,cw⟩:=hrel;by_cases a0:(i:Int)<j
  ·obtain⟨j,rfl⟩:∃k:Nat,j=(k:Int):=⟨j.toNat,G⟩;have nM:i<n:=G;have Ep:j<n:=G;have aDw:(i:Int)<n:=G;have aDx:(j:Int)<n:=G;obtain⟨x,ak,_,hT⟩:=cw.o.1.cell nM;obtain⟨y,az,_⟩:=cw.o.1.cell Ep;have bC:aM (∀u,ae wr u->u.cell? (B g i)=A (r c x)/\u.cell? (B g j)=A (r c y)):=λu Z=>⟨(Z.cell (p:=B g i) hT).trans ak,(Z.cell (p:=B g j) hT).trans az⟩;have j9:aM (∀u,ae wr u->(∃z,u.cell? (B g i)=A z)/\u.frozen? (B g i)=ao/\(∃z,(u.setCell (B g i) (r c y)).cell? (B g j)=A z)/\(u.setCell (B g i) (r c y)).frozen? (B g j)=ao/\(ui ((u.setCell (B g i) (r c y)).setCell (B g j) (r c x)) ai g n R/\Kept (λk=>k=g) w ((u.setCell (B g i) (r c y)).setCell (B g j) (r c x)))):=λu Z=>by
    have h1:=cw.o.1.below Z;have h2:=h1.set nM y;obtain⟨fO,q1,q2,_⟩:=h1.cell nM;obtain⟨fD,bm,cZ,_⟩:=h2.cell Ep;exact⟨⟨_,q1⟩,q2,⟨_,bm⟩,cZ,h2.set Ep x,((cw.o.2.trans (Kept.bg Z)).setCell rfl _).setCell rfl _⟩
   clear ak az cw;go_wp2_with fail;refine jQ (λD=>D.cell? (B g i)=A (r c x)/\D.cell? (B g j)=A (r c y)) 13 rfl ?_;change ej _ _ _ _ _ _ _ 16 _ _ wr.drew;obtain⟨et,dm⟩:=al wr.drew;have aL:=I (show ae wr et by rw[dm];exact(bx _ _).drew);rw[<-dm];clear dm;have ax:=bC.o _ aL.o;repeat first|refine fS ?_|refine ea ?_
   clear ax;obtain⟨⟨fO,ace⟩,f6,⟨fD,Ck⟩,eF,is⟩:=j9.o et aL.o;obtain⟨dV,dz⟩:=al (et.setCell (B g i) (r c y));rw[<-dz] at Ck eF is;refine dJ 13 ?_;refine lG dV ?_ (he:=by rw[dz];go_simp);have jW:=I dz;clear dz;refine⟨gj,?_⟩;repeat refine ea ?_
   obtain⟨cz,hu⟩:=al (dV.setCell (B g j) (r c x));rw[<-hu] at is;refine dJ 15 ?_;refine lG cz ?_ (he:=by rw[hu];go_simp);have cH:=I is;clear is ace Ck f6 eF jW hu aL bC j9;refine⟨gj,?_⟩;refine fc ?_;go_wp2_with fail;go_roundw
   ·exact⟨i+1,(j:Int)-1,by go_num,by go_num,G,G,cH⟩
   ·simp[cu];omega
  ·clear jl;go_wp2_with fail;go_end0;exact⟨rfl,cw.o⟩
theorem reverse_nil (w:O):aE aa 139 #[E T 0 0] w λe D=>e=au (b8 #[])/\D=w:=by
 go_in;go_wp2_with fail;go_loopw [2,3] (λx y wr=>x=r c 0/\y=r c (-1)/\wr=w) (λ_ _ _=>0)
 ·exact⟨rfl,by go_num,rfl⟩
 ·obtain⟨rfl,rfl,rfl⟩:=hrel;go_wp2_with fail;go_end0;exact⟨rfl,rfl⟩
def ou (hB:Int->Prop) (w:O) (ai g n R:Nat):Prop:=∃aj:List Int,aj.length=n/\(∀x∈aj,hB x)/\w.ownsRow ai 3 1 (E (A (B g 0)) n R) n (aj.flatMap ec)
theorem ou.cell {g R:Nat} (h:ou hB w ai g n R) (ag:i<n):∃x,w.cell? (B g i)=A (r c x)/\w.frozen? (B g i)=ao/\g<w.heap.size/\hB x:=by
 obtain⟨aj,rfl,dj,ar⟩:=h;have ak:=(jv rfl ar).at i ag;obtain⟨b,off,e,ah⟩:=ak;obtain⟨rfl,rfl⟩:g=b/\0=off:=by simpa using e
 obtain⟨DB,h1,h2,ap⟩:=ui.cell ⟨aj,rfl,ar⟩ ag;rw[jC,h1] at ah;injection ah with ah
 injection ah with _ ah
 exact⟨DB,h1,h2,ap,ah▸dj _ (gB ag)⟩
theorem ou.below {g R:Nat} (h:ou hB w ai g n R) (hb:ae w D):ou hB D ai g n R:=by
 obtain⟨aj,h1,dj,ar⟩:=h;exact⟨aj,h1,dj,o' ar hb⟩
theorem ou.set {g R:Nat} (h:ou hB w ai g n R) (ag:i<n) (ak:hB x):ou hB (w.setCell (B g i) (r c x)) ai g n R:=by
 obtain⟨aj,rfl,dj,ar⟩:=h;have q:=Bt ar i (r c x);have SA:(aj.flatMap ec).set i (r c x)=(aj.set i x).flatMap ec:=by
  have e:∀L:List Int,L.flatMap ec=L.map (kK c):=λL=>by
   induction L with
   |nil=>rfl
   |cons a L d4=>rw[uJ,d4];rfl
  rw[e,e,W8]
 rw[SA] at q;refine⟨aj.set i x,a3,λy az=>?_,q⟩;rcases QA az with h|h
 ·exact dj y h
 ·rw[h];exact ak
def JV (hB:Int->Prop) (w:O) (g fw:Nat) (eN:Array ac):Prop:=∀u,Kept (λk=>k=g) w u->∀x y,hB x->hB y->aE aa fw (#[r c x,r c y]++eN) u λe D=>∃U,e=au (r c U)/\ae u D
theorem acf (hB:Int->Prop) (ai g n R:Nat) (aC:n<=12) (fw:Nat) (jm:∀args w,(gM fw args).run aa w= .ok (.enter fw args) w) (eN:Array ac) (w:O) (h:ou hB w ai g n R) (ah:JV hB w g fw eN):
 aE aa 313 #[E (A (B g 0)) n R,r c 0,r c n,.func (.func fw) #[] eN] w λe D=>e=au (b8 #[])/\ou hB D ai g n R/\Kept (λk=>k=g) w D:=by
 have jl:aM (ou hB w ai g n R/\Kept (λk=>k=g) w w):=I ⟨h,Kept.refl _ _⟩;have cS:=I ah;have aoH:IntKind.i64.wrap (0+1)=1:=rfl;go_in;go_wp2_with fail;go_loopw [8] (λx wr=>∃i:Nat,x=r c i/\1<=i/\i<=n+1/\aM (ou hB wr ai g n R/\Kept (λk=>k=g) w wr)) (λx _=>n+1-(cu x).toNat)
 ·exact⟨1,by rfl,bY _,G,jl⟩
 ·obtain⟨i,rfl,aDy,nM,cw⟩:=hrel;by_cases a0:i<n
  ·have ie:(i:Int)<n:=G;go_wp2_with fail;go_loopw [9] (λx acg=>∃j:Nat,x=r c j/\j<=i/\aM (ou hB acg ai g n R/\Kept (λk=>k=g) w acg)) (λx _=>(cu x).toNat)
   ·exact⟨i,rfl,bY _,cw⟩
   ·obtain⟨j,rfl,ma,ld⟩:=hrel;by_cases u4:j=0
    ·have cj:aM (∀u,ae wr u->True):=λ_ _=>trivial;have d':=I (bx wr.heap.size wr);go_wp2_with fail;refine jj (S:=λD=>True) rfl ?_;have ax:=cj.o wr.drew (d'.o.drew);change wpAnyH _ _ _ _ _ 17 _ _ wr.drew;have bf:=I (d'.o.drew);repeat refine fA ?_
     refine eY 4 ax ?_;refine eY 5 ax ?_;refine eY 6 ax ?_;refine eY 7 ax ?_;refine eY 8 ax ?_;refine eY 9 ax ?_;refine eY 10 ax ?_;refine eY 11 ax ?_;refine eY 12 ax ?_;refine eY 13 ax ?_;refine eY 14 ax ?_;refine eY 15 ax ?_;repeat refine fA ?_
     refine i4 ?_;have JW:=db (ld.o.1.below bf.o) (ld.o.2.trans (Kept.bg bf.o));go_wp2_with fail;go_roundw
     ·exact⟨i+1,by go_num,G,G,JW⟩
     ·simp[cu];omega
    ·obtain⟨k,rfl⟩:∃k,j=k+1:=⟨j-1,G⟩;obtain⟨j,av⟩:=al (k+1);rw[<-av] at ma u4⊢;have Ep:j<n:=G;have s_:k<n:=G;have aoI:(j:Int)<n:=G;have Jo:(k:Int)<n:=G;have aDz:(0:Int)<j:=G;have aDA:0<j:=G;have jl:=ew k;have fP:IntKind.i64.wrap ((j:Int)-1)=(k:Int):=by rw[av];rw[o7 _ G];omega
     obtain⟨x,ak,_,hT,md⟩:=ld.o.1.cell s_;obtain⟨y,az,_,_,xQ⟩:=ld.o.1.cell Ep;have G4:aM (∀u,ae wr u->aE aa fw (#[r c y,r c x]++eN) u λe D=>∃U,e=au (r c U)/\ae u D):=λu Z=>cS.o u (ld.o.2.trans (Kept.bg Z)) y x xQ md;have cj:aM (∀u,ae wr u->u.cell? (B g k)=A (r c x)/\u.cell? (B g j)=A (r c y)):=λu Z=>⟨(Z.cell (p:=B g k) hT).trans ak,(Z.cell (p:=B g j) hT).trans az⟩;have d':=I (bx wr.heap.size wr);have sv:=qV hT ak az md xQ;have ach:=I av;clear av;go_wp2_with fail;refine jj (S:=λD=>D.cell? (B g k)=A (r c x)/\D.cell? (B g j)=A (r c y)) rfl ?_;have ax:=cj.o wr.drew (d'.o.drew);change wpAnyH _ _ _ _ _ 17 _ _ wr.drew;have bf:=I (d'.o.drew);repeat refine fA ?_
     refine fs 14 ?_;refine gE fw (G4.o wr.drew bf.o) ?_ (aP:=by rintro _ _ ⟨_,h,_⟩;cases h) (aQ:=by rintro _ ⟨_,h,_⟩;cases h);rintro yY hR ⟨U,⟨rfl⟩,hb⟩;have ef:=I (bf.o.trans (hb.mono bf.o.size))
     replace bf:=ef
     have ax:=cj.o hR bf.o;refine⟨ax,?_⟩;simp only[bN,bM,bO];repeat refine fA ?_
     refine i4 ?_;have pK:=bf.o;obtain⟨hT,ak,az,md,xQ⟩:=sv.o;have fR:=db (ld.o.1.below pK) (ld.o.2.trans (Kept.bg pK));have TD:g<hR.heap.size:=jP hT pK.size;have aoJ:=(pK.cell (p:=B g k) hT).trans ak;have aoK:=(pK.cell (p:=B g j) hT).trans az;have G9:=qV aoJ aoK TD md xQ;by_cases ar:U<0
     ·rw[decide_eq_true ar];have bC:aM (∀u,ae hR u->u.cell? (B g k)=A (r c x)/\u.cell? (B g j)=A (r c y)):=λu Z=>⟨(Z.cell (p:=B g k) G9.o.2.2.1).trans G9.o.1,(Z.cell (p:=B g j) G9.o.2.2.1).trans G9.o.2.1⟩;have j9:aM (∀u,ae hR u->(∃z,u.cell? (B g j)=A z)/\u.frozen? (B g j)=ao/\(∃z,(u.setCell (B g j) (r c x)).cell? (B g k)=A z)/\(u.setCell (B g j) (r c x)).frozen? (B g k)=ao/\ou hB ((u.setCell (B g j) (r c x)).setCell (B g k) (r c y)) ai g n R/\Kept (λk=>k=g) w ((u.setCell (B g j) (r c x)).setCell (B g k) (r c y))):=λu Z=>by
       have h1:=fR.o.1.below Z;have h2:=h1.set Ep (x:=x) G9.o.2.2.2.1;obtain⟨fO,q1,q2,_⟩:=h1.cell Ep;obtain⟨fD,bm,cZ,_⟩:=h2.cell s_;exact⟨⟨_,q1⟩,q2,⟨_,bm⟩,cZ,h2.set s_ G9.o.2.2.2.2,((fR.o.2.trans (Kept.bg Z)).setCell rfl _).setCell rfl _⟩
      go_wp2_with fail;refine jQ (λD=>D.cell? (B g k)=A (r c x)/\D.cell? (B g j)=A (r c y)) 15 rfl ?_;change ej _ _ _ _ _ _ _ 18 _ _ hR.drew;obtain⟨et,dm⟩:=al hR.drew;have aL:=I (show ae hR et by rw[dm];exact(bx _ _).drew);rw[<-dm];clear dm;have ax:=bC.o _ aL.o;repeat first|refine fS ?_|refine ea ?_
      obtain⟨⟨fO,ace⟩,f6,⟨fD,Ck⟩,eF,is⟩:=j9.o et aL.o;obtain⟨dV,dz⟩:=al (et.setCell (B g j) (r c x));rw[<-dz] at Ck eF is;refine dJ 15 ?_;refine lG dV ?_ (he:=by rw[dz];go_simp);have jW:=I dz;clear dz;refine⟨gj,?_⟩;repeat refine ea ?_
      obtain⟨cz,hu⟩:=al (dV.setCell (B g k) (r c y));rw[<-hu] at is;refine dJ 17 ?_;refine lG cz ?_ (he:=by rw[hu];go_simp);have cH:=I is;clear hu;refine⟨gj,?_⟩;refine fc ?_;go_wp2_with fail;go_roundw
      ·exact⟨k,rfl,bI ach.o,cH⟩
      ·simp[cu];have:=ach.o;omega
     ·rw[decide_eq_false ar];go_wp2_with fail;go_roundw
      ·exact⟨i+1,by go_num,G,G,fR⟩
      ·simp[cu];omega
  ·go_wp2_with fail;go_end0;exact⟨rfl,cw.o⟩
theorem aoL (hB:Int->Prop) (ai g n R:Nat) (aC:n<=12) (fw:Nat) (jm:∀args w,(gM fw args).run aa w= .ok (.enter fw args) w) (eN:Array ac) (w:O) (h:ou hB w ai g n R) (ah:JV hB w g fw eN):
 aE aa 306 #[E (A (B g 0)) n R,r c n,.func (.func fw) #[] eN] w λe D=>e=au (b8 #[])/\ou hB D ai g n R/\Kept (λk=>k=g) w D:=by
 have bZ:=I (acf hB ai g n R aC fw jm eN w h ah);have aci:¬(20:Int)<=n:=G;have aoM:¬(20:Int)<n:=G;go_in;go_wp2_with fail;go_loopw [7,8] (λx y wr=>x=r c 0/\y=r c 20/\wr=w) (λ_ _ _=>0)
 ·exact⟨rfl,rfl,rfl⟩
 ·obtain⟨rfl,rfl,rfl⟩:=hrel;go_wp2_with fail;refine dl bZ.o λay ar=>?_;have cW:=I ar;go_wp2_with fail;go_loopw [6] (λx wr=>x=r c 20/\wr=ay) (λ_ _=>0)
  ·exact⟨rfl,rfl⟩
  ·obtain⟨rfl,rfl⟩:=hrel;go_wp2_with fail;go_end0;exact⟨rfl,cW.o⟩
theorem aoN (hB:Int->Prop) (ai g n R:Nat) (aC:n<=12) (fw:Nat) (jm:∀args w,(gM fw args).run aa w= .ok (.enter fw args) w) (eN:Array ac) (w:O) (h:ou hB w ai g n R) (ah:JV hB w g fw eN):
 aE aa 276 #[E (A (B g 0)) n R,.func (.func fw) #[] eN] w λe D=>e=au (b8 #[])/\ou hB D ai g n R/\Kept (λk=>k=g) w D:=by
 have bZ:=I (aoL hB ai g n R aC fw jm eN w h ah);go_in;go_wp2_with fail;refine dl bZ.o λay ar=>?_;have cW:=I ar;go_wp2_with fail;go_end0;exact⟨rfl,cW.o⟩
theorem acj (v:ac) (L:List Int) (i:Int) (w:O) (h:cR w v L):aE aa 260 #[v,r c i] w λe D=>e=au (b8 #[r c (if 0<=i/\i<L.length then L[i.toNat]?.getD 0 else 0),aA (decide (0<=i/\i<L.length))])/\D=w:=by
 have h0:=h;obtain⟨a,cap,rfl,_,_,_⟩:=h;by_cases h1:i<0
 ·rw[if_neg G,decide_eq_false G];clear h0;go_in;go_wp2_with fail
  go_ret2
  exact⟨rfl,rfl⟩
 ·by_cases h2:(L.length:Int)<=i
  ·rw[if_neg G,decide_eq_false G];clear h0;go_in;go_wp2_with fail
   go_ret2
   exact⟨rfl,rfl⟩
  ·obtain⟨n,rfl⟩:=r6 (show 0<=i by omega);obtain⟨b,o,rfl,ah⟩:=h0.at n G;have js:=ew n;have mC:(n:Int)<L.length:=G;rw[if_pos ⟨js,mC⟩,decide_eq_true ⟨js,mC⟩,ko,eA G];obtain⟨x,ak⟩:=al (L[n]'G);rw[<-ak] at ah⊢;clear h0 ak;go_in;go_wp2_with fail
   go_ret2
   exact⟨rfl,rfl⟩
def wI (L:List Int) (i:Int):Int:=if 0<=i/\i<L.length then L[i.toNat]?.getD 0 else 0
theorem ack (p:Nat) (g:Raw) (i:Int) (w:O) (h:eq w p g):aE aa 187 #[J p 0,r c i] w λe D=>e=au (b8 #[r c (wI g.X i),r c (wI g.Y i),aA (decide (0<=i/\i<g.Y.length))])/\D=w:=by
 obtain⟨cP,cC,eR,ey,dG,fF,cx,c2,vi,vk,dD,vj,bR,aV,bb,ch,gR,gl,ak,az,ha,aQ,ag⟩:=h.cells;have C:=I (acj _ _ i w ak);have aF:=I (acj _ _ i w az);obtain⟨x,u0⟩:∃x,x=wI g.X i:=⟨_,rfl⟩;obtain⟨y,Oa⟩:∃y,y=wI g.Y i:=⟨_,rfl⟩;obtain⟨q,aO⟩:=al (decide (0<=i/\i<(g.Y.length:Int)));obtain⟨q2,Az⟩:=al (decide (0<=i/\i<(g.X.length:Int)));change aM (aE _ _ _ _ λe D=>e=au (b8 #[r c (wI g.X i),_])/\D=w) at C;change aM (aE _ _ _ _ λe D=>e=au (b8 #[r c (wI g.Y i),_])/\D=w) at aF;rw[<-u0,<-Az] at C;rw[<-Oa,<-aO] at aF;rw[<-u0,<-Oa,<-aO];clear h ak az ha aQ ag bR ch gR gl u0 Oa aO Az;go_in;go_wp2_with fail;refine C.o.mono ?_;rintro e aJ ⟨rfl,rfl⟩;go_wp2_with fail;refine aF.o.mono ?_;rintro e ba ⟨rfl,rfl⟩;go_wp2_with fail
 go_ret3
 exact⟨rfl,rfl⟩
section
attribute [local go_sem] f'
abbrev vm (g:Raw) (aD:bd->Int) (v:Int):={i:Nat//∃h:i<g.arcs.length,aD g.arcs[i]=v}
def gw (g:Raw) (i:Nat):bd:=g.arcs[i]?.getD (0,0,0)
theorem oY {g:Raw} (h:i<g.arcs.length):gw g i=g.arcs[i]:=by unfold gw;rw[eA h];rfl
def NG {g:Raw} {aD:bd->Int} {v:Int} (fz:bd->Int) (x:vm g aD v):Array ac:=#[r c (x.1:Nat),aZ #[r c 0,r c (fz (gw g x.1)),r c (gw g x.1).2.2]]
structure aaU (g:Raw) (aj:List Int) (p yO fv GX f:Nat) (GY:ac) (W:O):Prop where
 kS:eq W p g
 row:cR W GY aj
 aq:V W yO #[GY] 41
 Jz:V W fv #[J p 0] 62
 aaV:V W GX #[.func (.func f) #[] #[]] 153
theorem anl (p:Option cp) (wx:Option cp) (Aj xg:Nat) (f:Nat) (w:O):aE aa 167 #[.pointer p,E wx Aj xg,.func (.func f) #[] #[]] w λe D=>e=au (.func (.func 253) #[] #[J (w.heap.size+1) 0,J w.heap.size 0,J (w.heap.size+2) 0])/\
 D=((w.alloc (an #[.pointer p] 62)).alloc (an #[E wx Aj xg] 41)).alloc (an #[.func (.func f) #[] #[]] 153):=by
 have g_:=@hJ aa;go_in;go_wp2_with fail;go_ret;exact⟨rfl,rfl⟩
theorem anm (m:Nat) (hm:1<=m) (gd yO fv GX p f:Nat) (g:Raw) (aD fz:bd->Int) (v:Nat) (aK:(v:Int)<g.nodes) (is:DV f fz) (aj:List Int) (NH:aj=lj aD g v) (NI:aj.length<=1000000) (GY:ac)
 (bG iu:List (vm g aD v)->O->Prop) (ee:∀x Q ai,bG x Q->ae Q ai->bG x ai) (eb:O->O->Prop) (e2:O->Prop) (yM:∀Q,e2 Q->aaU g aj p yO fv GX f GY Q) (SY:∀Q ai,e2 Q->ae Q ai->e2 ai) (ph:∀Q ai,e2 Q->eb Q ai->e2 ai)
 (ei:∀(pre:List (vm g aD v)) (x:vm g aD v) W,bG pre W->pre.length<aj.length->YieldAt dY (m-1) aa gd (NG fz x) W λe W'=>
  (e=au (aA ad)/\bG (pre++[x]) W'/\eb W W')\/(e=au (aA ao)/\iu (pre++[x]) W'))
 (W:O) (aaW:e2 W) (h0:bG [] W):
 CallsIn dY m aa 253 #[.func (.yield gd) #[] #[],J yO 0,J fv 0,J GX 0] W λe W'=>(∃v,e=au v)/\
  ((∃ce,(∀x:vm g aD v,x∈ce)/\bG ce W')\/(∃pre,True/\iu pre W')):=by
 have dK:=yM W aaW;obtain⟨wx,xg,rfl,aaX,ua,_⟩:=id dK.row;unfold maxLen at ua;have aV:=aR dK.aq 0;have eH:=I aaW;have j_:=I yM;have aaY:=I SY;have hM:=I h0;have SZ:=I ee;have ju:=I ei;have S0:=I ph;have cH:=I is;have aaZ:=I NH;have kx:=I aK;clear NH;refine kL aBA rfl trivial ?_ rfl;simp only[ntmps253,g0,fV,gp,gA,g1,gI,gJ,gK,gL,f1,fW];gi_wp2_with fail;gi_loopw [11] (λu wr=>∃(k:Nat) (pre:List (vm g aD v)),k<=aj.length/\u=r c k/\aM (pre.map (λx=>((x.1:Nat):Int))=aj.take k)/\aM (e2 wr)/\aM (bG pre wr)) (λu _=>aj.length-(cu u).toNat)
 ·exact⟨0,[],cQ _,rfl,I rfl,eH,hM⟩
 ·obtain⟨k,pre,K,rfl,e_,eH,NJ⟩:=hrel;by_cases a0:k<aj.length
  ·have ie:(k:Int)<aj.length:=G;have jl:=ew k;obtain⟨i,ag,RG,S1⟩:=(B_ aD kx.o).1 (by rw[<-aaZ.o];exact gB a0);obtain⟨x,ak⟩:∃x:vm g aD v,x.1=i:=⟨⟨i,RG,S1⟩,rfl⟩;obtain⟨b,off,rfl,d⟩:=(j_.o wr eH.o).row.at k a0;rw[ag] at d;have bb:=aR ((j_.o wr eH.o).Jz) 0;have ch:=aR ((j_.o wr eH.o).aaV) 0;have dM:=D_ p g i wr (j_.o wr eH.o).kS;rw[if_pos ⟨G,G⟩,decide_eq_true (show 0<=(i:Int)/\(i:Int)<g.arcs.length from⟨G,G⟩),ko] at dM;change aE _ _ _ _ (λe D=>e=au (b8 #[vl (gw g i),aA ad])/\ae wr D) at dM;obtain⟨gG,pj⟩:=al ((gw g i).1);obtain⟨a1,oi⟩:=al ((gw g i).2.1);obtain⟨a2,wy⟩:=al ((gw g i).2.2);obtain⟨a8,S2⟩:=al (fz (gG,a1,a2));have S3:gw g i=(gG,a1,a2):=by rw[pj,oi,wy]
   unfold vl at dM;rw[<-pj,<-oi,<-wy] at dM;have dM:=I dM;have e7:=I (show x.1=i/\a8=fz (gw g i)/\a2=(gw g i).2.2 from⟨ak,by rw[S3];exact S2,wy⟩);have nm:pre.length<aj.length:=by
    have h:=congrArg List.length e_.o;rw[iT,lS] at h;omega
   have NK:=I (show k+1<=aj.length/\aj.take (k+1)=aj.take k++[((i:Nat):Int)] from⟨a0,by rw[uI a0,ag]⟩);have NL:aM (∀u,aE aa f #[aZ #[r c gG,r c a1,r c a2]] u λe D=>e=au (r c a8)/\ae u D):=λu=>by rw[S2];exact cH.o.2 (gG,a1,a2) u
   have wz:=I nm;clear ak pj oi wy S2;gi_wp2_with fail;refine jb dM.o λaJ a5=>?_;obtain⟨ci,g5⟩:=al aJ.heap.size;obtain⟨j',so⟩:=al (aJ.alloc (an #[r c gG,r c a1,r c a2] 57));have mK:ae wr j':=a5.next' (by rw[so];exact fb);have te:=eK so g5;have aa0:=aaY.o _ _ eH.o mK;have SY:=j_.o _ aa0;have bC:aM (∀u,ae j' u->u.cell? (B GX 0)=A (.func (.func f) #[] #[])/\u.cell? (B ci 0)=A (r c gG)/\u.cell? (B ci 1)=A (r c a1)/\u.cell? (B ci 2)=A (r c a2)):=λu Z=>⟨(SY.aaV.aq Z).cell 0,(te.aq Z).cell 0,(te.aq Z).cell 1,(te.aq Z).cell 2⟩;have ld:aM (∀u,ae j' u->bG pre u/\pre.length<aj.length/\e2 u):=λu Z=>⟨SZ.o _ _ _ NJ.o (mK.next' Z),wz.o,aaY.o _ _ aa0 Z⟩;have t3:=I g5;have JA:=I so;clear g5 so;gi_wp2_with fail;rw[<-JA.o,<-t3.o];have GZ:=cH.o.1;refine Dv (F:=dY) (n:=m) (λD=>D.cell? (B GX 0)=A (.func (.func f) #[] #[])/\D.cell? (B ci 0)=A (r c gG)/\D.cell? (B ci 1)=A (r c a1)/\D.cell? (B ci 2)=A (r c a2)) 8 rfl ?_;change ej _ _ _ _ _ _ _ 10 _ _ j'.drew;obtain⟨et,dm⟩:=al j'.drew;have aL:=I (show ae j' et by rw[dm];exact(bx _ _).drew);rw[<-dm];clear dm;refine ct 0 (.func (.yield gd) #[] #[]) (λ_=>bC.o _ aL.o) ?_;refine ct 1 (r c i) (λ_=>bC.o _ aL.o) ?_;refine r8 2 (.func (.func f) #[] #[]) [4,8] (cb:=bC.o _ aL.o) (h:=?_);simp only[bN,bM,bO];refine r8 3 (aZ #[r c gG,r c a1,r c a2]) [4,8] (cb:=bC.o _ aL.o) (h:=?_);simp only[bN,bM,bO];refine ct 5 (J ci 2) (λ_=>bC.o _ aL.o) ?_;refine r8 6 (r c a2) [7,8] (cb:=bC.o _ aL.o) (h:=?_);simp only[bN,bM,bO];refine dJ 4 ?_;refine X5 (f:=f) (args:=#[aZ #[r c gG,r c a1,r c a2]]) rfl rfl (by rfl) (by go_simp) hm (im.2 (NL.o et)) ?_ (by rintro _ _ ⟨h,_⟩;cases h) (by rintro _ ⟨h,_⟩;cases h);rintro _ wc ⟨⟨rfl⟩,kg⟩;have wA:=I (aL.o.trans (kg.mono aL.o.size));refine⟨λ_=>bC.o _ wA.o,?_⟩;simp only[bN,bM,bO];refine ct 7 (aZ #[r c 0,r c a8,r c a2]) (λ_=>bC.o _ wA.o) ?_;refine dJ 8 ?_;have S4:=ld.o wc wA.o;obtain⟨fn,tmps,assign,body,az,cf⟩:=ju.o pre x wc S4.1 S4.2.1;have ann:=I S4.2.2;dsimp only[NG] at az;rw[e7.o.1,<-e7.o.2.1,<-e7.o.2.2] at az;refine ai2 rfl rfl (by rfl) (by go_simp) hm cf ?_ (by rintro _ _ (⟨h,_⟩|⟨h,_⟩)<;>cases h) (by rintro _ (⟨h,_⟩|⟨h,_⟩)<;>cases h);rintro v dI (⟨aK,ho,dv⟩|⟨aK,og⟩)
   ·obtain rfl:v=aA ad:=by injection aK
    have c9:=db ho (S0.o _ _ ann.o dv);refine⟨gj,?_⟩;simp only[bN,bM,bO];refine ct 9 (aA ao) gj ?_;refine fc ?_;gi_wp2_with fail;go_roundw
    ·exact⟨k+1,pre++[x],NK.o.1,by go_num,I (by rw[qc,e_.o,NK.o.2];simp[e7.o.1]),I c9.o.2,I c9.o.1⟩
    ·have:=NK.o.1;simp[cu];omega
   ·obtain rfl:v=aA ao:=by injection aK
    have c9:=I og;refine⟨gj,?_⟩;simp only[bN,bM,bO];refine ct 9 (aA ad) gj ?_;refine fc ?_;gi_wp2_with fail;refine gh (mQ rfl _ _ _) rfl ?_;first|exact⟨⟨_,rfl⟩,.inr ⟨_,trivial,c9.o⟩⟩|exact⟨⟨_,rfl⟩,.inr ⟨_,c9.o⟩⟩
  ·obtain rfl:k=aj.length:=G;have cS:aM (∀x:vm g aD v,x∈pre):=λx=>by
    have h1:((x.1:Nat):Int)∈aj:=by rw[aaZ.o];exact(B_ aD kx.o).2 ⟨x.1,rfl,x.2⟩
    rw[<-v3 (l:=aj),<-e_.o] at h1;obtain⟨y,az,e⟩:=jB.1 h1;have:y=x:=Subtype.ext G;exact this▸az
   gi_wp2_with fail;go_end0;exact⟨⟨_,rfl⟩,.inl ⟨_,cS.o,NJ.o⟩⟩
end
def S7 (aF:DataW Unit) (C:List Int):Prop:=∀v,aF.atKey (hv v) (.lit (.int c 0))= .lit (.int c (if v∈C then 1 else 0))
structure mu (w:O) (aj N p ab bz bv:Nat) (d_:ac) (bX:Nat) (a7:Nat->Prop) (L:List bw) (b4 aS C:List Int):Prop where
 aH:V w aj #[J p 0,E (A (B bz 0)) N N,E (A (B bv 0)) N N,d_,.map (A bX)] 260
 heap:i8 a7 w p ab N L
 nf:V w bz (c6 c b4) 2
 tg:b4.length=N
 oj:V w bv (c6 c aS) 3
 yS:aS.length=N
 order:w.ownsRow 0 3 1 d_ C.length (C.flatMap ec)
 closed:∃aF:DataW Unit,w.ownsMap aa 3 (sN aa 3) bX C.length aF/\S7 aF C
 apart:¬a7 aj/\¬a7 bz/\¬a7 bv/\¬a7 bX/\∀k,d_.ownBlock=A k->¬a7 k/\k≠bv
 dR:N<=12
 Eb:C.length<=N
theorem mu.xF {b4 aS:List Int} (h:mu w aj N p ab bz bv d_ bX a7 L b4 aS C):aj<w.heap.size/\bz<w.heap.size/\bv<w.heap.size/\bX<w.heap.size/\∀k,d_.ownBlock=A k->k<w.heap.size:=by
 obtain⟨aF,h1,_⟩:=h.closed;exact⟨h.aH.lt,h.nf.lt,h.oj.lt,Dp h1,λk K=>(di h.order K).2.choose_spec.lt⟩
theorem mu.dy {b4 aS:List Int} (h:mu w aj N p ab bz bv d_ bX a7 L b4 aS C) (aB:w.heap.size<=D.heap.size)
 (hb:∀k,(a7 k\/k=aj\/k=bz\/k=bv\/k=bX\/d_.ownBlock=A k)->D.heap[k]? =w.heap[k]?):mu D aj N p ab bz bv d_ bX a7 L b4 aS C:=by
 obtain⟨aF,h1,h2⟩:=h.closed;exact⟨(hb aj a3).trans h.aH,h.heap.dy aB λk K=>hb k (.inl K),(hb bz a3).trans h.nf,h.tg,(hb bv a3).trans h.oj,h.yS,fB h.order λk K=>hb k (by simp[K]),⟨aF,u_ h1 (hb bX a3),h2⟩,h.apart,h.dR,h.Eb⟩
theorem mu.below {b4 aS:List Int} (h:mu w aj N p ab bz bv d_ bX a7 L b4 aS C) (hb:ae w D):mu D aj N p ab bz bv d_ bX a7 L b4 aS C:=
 h.dy hb.size λk K=>hb.block k (by
  obtain⟨q1,q2,bm,cZ,ek⟩:=h.xF;rcases K with K|rfl|rfl|rfl|rfl|K
  ·exact h.heap.lt K
  ·exact q1
  ·exact q2
  ·exact bm
  ·exact cZ
  ·exact ek k K)
theorem mu.uR {b4 aS:List Int} (h:mu w aj N p ab bz bv d_ bX a7 L b4 aS C) {H:bw->Prop} (aP:rD a7 w p ab N H D):
 ∃c',mu D aj N p ab bz bv d_ bX (t_ a7 w D) c' b4 aS C/\(∀x,x∈c'↔H x)/\Kept a7 w D/\GN ab w D:=by
 obtain⟨c',h1,h2,ap,bl⟩:=aP;obtain⟨q1,q2,bm,cZ,ek⟩:=h.xF;obtain⟨a1,a2,dX,jc,np⟩:=h.apart;obtain⟨aF,e4,g7⟩:=h.closed;have hg:∀k,k<w.heap.size->¬a7 k->¬t_ a7 w D k:=λk K aC hg=>by
  rcases hg with hg|hg
  ·exact aC hg
  ·omega
 exact⟨c',⟨ap.aH h.aH a1,h1,ap.aH h.nf a2,h.tg,ap.aH h.oj dX,h.yS,fB h.order λk K=>ap.block k (ek k K) (np k K).1,⟨aF,u_ e4 (ap.block bX cZ jc),g7⟩,⟨hg _ q1 a1,hg _ q2 a2,hg _ bm dX,hg _ cZ jc,λk K=>⟨hg k (ek k K) (np k K).1,(np k K).2⟩⟩,h.dR,h.Eb⟩,h2,ap,bl⟩
theorem mu.look {b4 aS:List Int} (h:mu w aj N p ab bz bv d_ bX a7 L b4 aS C) (aK:0<=v/\v<N):
 (Instr.lookup 155 (.map (A bX)) (.int c v) ao).run aa w= .ok (.int c (if v∈C then 1 else 0)) w:=by
 obtain⟨aF,h1,h2⟩:=h.closed;have:=h.dR;obtain⟨R,ar,gP,_⟩:=h1.lookup_int n' yp qP (BP w) (Dq qP (t5 (a:=v) G));have e:=h2 v;change aF.atKey (hv v) _=_ at gP;rw[gP] at e;have en:R=if v∈C then 1 else 0:=by simpa only[aiy,aiz,true_and] using e
 subst en;exact ar
theorem mu.qt {b4 aS:List Int} (h:mu w aj N p ab bz bv d_ bX a7 L b4 aS C) (i:Nat) (a:Int):
 mu (w.setCell (B bv i) (.int c a)) aj N p ab bz bv d_ bX a7 L b4 (aS.set i a) C:=by
 obtain⟨a1,a2,dX,jc,np⟩:=h.apart;obtain⟨aF,e4,g7⟩:=h.closed;have b9:∀j,j≠bv->(w.setCell (B bv i) (.int c a)).heap[j]? =w.heap[j]? :=λj av=>d7 _ _ _ _ av;have ol:∀{b:Nat} {cs:Array ac} {t:cY} {fr:Nat×Nat},V w b cs t fr->t≠3->b≠bv:=λ{b cs t fr} hb ht e=>by
  subst e;exact ht (er hb h.oj)
 have lq:bX≠bv:=λe=>by
  obtain⟨eJ,bL,a5,_⟩:=e4;have hb:=h.oj;rw[<-e] at hb;rw[show w.heap[bX]? =_ from hb] at a5;cases a5
 refine⟨(b9 _ (ol h.aH bj)).trans h.aH,h.heap.dy a3 (λk K=>b9 k (λe=>dX (e▸K))),(b9 _ (ol h.nf bj)).trans h.nf,h.tg,?_,by rw[gN];exact h.yS,fB h.order λk K=>b9 k (np k K).2,⟨aF,u_ e4 (b9 bX lq),g7⟩,h.apart,h.dR,h.Eb⟩;have q:=h.oj.set i (.int c a)
 rwa[tO] at q
theorem mu.grown {Q aa7:O} {b4 aS:List Int} (h:mu Q aj N p ab bz bv d_ bX a7 L b4 aS C) {row:Option Nat} (hg:Q.grownBy aa7 row) (ar:∀U,row=A U->ai<=U/\∃o:Obj,Q.heap[U]? =A o/\o.isCells=ao) (hb:ab<ai/\bX<ai):mu aa7 aj N p ab bz bv d_ bX a7 L b4 aS C:=by
 obtain⟨aF,e4,g7⟩:=h.closed;exact⟨B0 hg ar h.aH,h.heap.grown hg ar hb.1,B0 hg ar h.nf,h.tg,B0 hg ar h.oj,h.yS,fB h.order λk K=>by
  obtain⟨_,_,aO⟩:=di h.order K;exact(B0 hg ar aO).trans (show _=_ from aO).symm,⟨aF,u_ e4 (hg.block _ (Dp e4) (λe=>by have:=(ar _ e.symm).1;omega)),g7⟩,h.apart,h.dR,h.Eb⟩
theorem ans {b4 aS:List Int} (h:mu w aj N p ab bz bv d_ bX a7 L b4 aS C) (aK:0<=v/\v<N) (a cl:Int)
 (hold:(v∈C/\∀k,(v,k)∉L)\/(v∉C/\∃k,(v,k)∈L/\k<=cl)):
 aE aa 168 #[J aj 0,.int c v,.int c a,.int c cl] w λe D=>e=au (b8 #[])/\D=w:=by
 have iD:=h.look aK;have bR:=aR h.aH 0;have gR:=aR h.aH 4;rcases hold with⟨bJ,aC⟩|⟨bJ,k,K,hle⟩
 ·have cw:=I (SP h.heap aC (show 0<=v/\v<(N:Int) from aK));rw[if_pos bJ] at iD;clear h bJ aC;go_in;go_wp2_with fail;refine eO cw.o ?_;go_wp2_with fail;refine gh (mQ rfl _ _ _) rfl ?_;exact⟨rfl,rfl⟩
 ·have cw:=I (SO h.heap K);rw[if_neg bJ] at iD;clear h bJ K;go_in;go_wp2_with fail;refine eO cw.o ?_;go_wp2_with fail;refine gh (mQ rfl _ _ _) rfl ?_;exact⟨rfl,rfl⟩
def aa8 (w:O) (aj N p ab bz bv:Nat) (d_:ac) (bX:Nat) (a7:Nat->Prop) (L:List bw) (b4 aS C:List Int) (v a cl:Int) (D:O):Prop:=
 ∃c' hi,mu D aj N p ab bz bv d_ bX hi c' b4 (aS.set v.toNat a) C/\(∀x,x∈c'↔x=(v,cl)\/(x∈L/\x.1≠v))/\Kept (λk=>a7 k\/k=bv) w D/\(∀k,hi k->a7 k\/w.heap.size<=k)/\GN ab w D
theorem ant {b4 aS:List Int} (h:mu w aj N p ab bz bv d_ bX a7 L b4 aS C) (aK:0<=v/\v<N) (a cl:Int)
 (bJ:v∉C) (hL:∀k,(v,k)∈L->cl<k):
 aE aa 168 #[J aj 0,.int c v,.int c a,.int c cl] w λe D=>e=au (b8 #[])/\aa8 w aj N p ab bz bv d_ bX a7 L b4 aS C v a cl D:=by
 have iD:=h.look aK;rw[if_neg bJ] at iD;have bR:=aR h.aH 0;have gR:=aR h.aH 4;obtain⟨i,ag⟩:∃i:Nat,v=(i:Int):=⟨v.toNat,G⟩;subst ag;obtain⟨q9,h5⟩:=aK;have b1:=h.dR;have vb:aM (∀ay,rD a7 w p ab N (λx=>x=((i:Int),cl)\/(x∈L/\x.1≠(i:Int))) ay->ay.cell? (B aj 2)=A (E (A (B bv 0)) N N)/\(∃z,ay.cell? (B bv i)=A z)/\ay.frozen? (B bv i)=ao/\aa8 w aj N p ab bz bv d_ bX a7 L b4 aS C (i:Int) a cl (ay.setCell (B bv i) (.int c a))):=λay aP=>by
  obtain⟨c',q1,q2,bm,cZ⟩:=h.uR aP;refine⟨q1.aH.cell 2,⟨_,by rw[q1.oj.cell];exact kd _ _ i (by rw[q1.yS];omega)⟩,q1.oj.free i (.inr (cQ _)),c',_,q1.qt i a,q2,(bm.mono λk K=> .inl K).setCell (.inr rfl) _,λk K=>?_,λk o b9 aQ ah=>?_⟩
  ·rcases K with K|K
   ·exact .inl K
   ·exact .inr K.1
  ·refine(d7 _ _ _ _ (λe=>?_)).trans (cZ k o b9 aQ ah);have e:k=bv:=e;subst e;rw[show w.heap[k]? =_ from h.oj] at aQ;obtain rfl:=eT aQ;cases ah
 by_cases K:∃k,((i:Int),k)∈L
 ·obtain⟨k,K⟩:=K;have a0:=hL k K;have cw:=I (SO h.heap K);have fG:=I (SM h.heap K (Int.le_of_lt a0));clear h bJ K hL;go_in;go_wp2_with fail;refine eO cw.o ?_;go_wp2_with fail;refine dl fG.o λay aP=>?_;obtain⟨d2,⟨z,wC⟩,eF,is⟩:=vb.o ay aP;have cH:=I is;clear is aP fG cw vb;go_wp2_with fail;go_end0;exact⟨rfl,cH.o⟩
 ·have aC:∀k,((i:Int),k)∉L:=λk hm=>K ⟨k,hm⟩;have cw:=I (SP h.heap aC ⟨q9,h5⟩);have fG:=I (NE h.heap cl aC ⟨q9,h5⟩);have hz:aM (∀ay,rD a7 w p ab N (λx=>x=((i:Int),cl)\/x∈L) ay->rD a7 w p ab N (λx=>x=((i:Int),cl)\/(x∈L/\x.1≠(i:Int))) ay):=λay ⟨c',q1,q2,bm,cZ⟩=>⟨c',q1,λx=>by
   rw[q2];constructor
   ·rintro(h|h)
    ·exact .inl h
    ·exact .inr ⟨h,λe=>aC x.2 (by rw[<-e];exact h)⟩
   ·rintro(h|h)
    ·exact .inl h
    ·exact .inr h.1,bm,cZ⟩
  clear h bJ K hL aC;go_in;go_wp2_with fail;refine eO cw.o ?_;go_wp2_with fail;refine dl fG.o λay aP=>?_;obtain⟨d2,⟨z,wC⟩,eF,is⟩:=vb.o ay (hz.o ay aP);have cH:=I is;clear is aP fG cw vb hz;go_wp2_with fail;go_end0;exact⟨rfl,cH.o⟩
section
attribute [local go_sem] f'
theorem anw (be:Array ac) (aB:be.size=117) {gG a1 a2 dX NP An NQ Ao NR:ac} (h0:be[0]? =A gG) (h1:be[1]? =A a1) (h2:be[2]? =A a2) (ap:be[3]? =A dX) (h9:be[8]? =A NP) (iJ:be[9]? =A An) (oO:be[10]? =A NQ) (lF:be[11]? =A Ao) (sc:be[12]? =A NR):∃f:Nat->ac,be=#[gG,a1,a2,dX,f 4,f 5,f 6,f 7,NP,An,NQ,Ao,NR,f 13,f 14,f 15,f 16,f 17,f 18,f 19,f 20,f 21,f 22,f 23,f 24,f 25,f 26,f 27,f 28,f 29,f 30,f 31,f 32,f 33,f 34,f 35,f 36,f 37,f 38,f 39,f 40,f 41,f 42,f 43,f 44,f 45,f 46,f 47,f 48,f 49,f 50,f 51,f 52,f 53,f 54,f 55,f 56,f 57,f 58,f 59,f 60,f 61,f 62,f 63,f 64,f 65,f 66,f 67,f 68,f 69,f 70,f 71,f 72,f 73,f 74,f 75,f 76,f 77,f 78,f 79,f 80,f 81,f 82,f 83,f 84,f 85,f 86,f 87,f 88,f 89,f 90,f 91,f 92,f 93,f 94,f 95,f 96,f 97,f 98,f 99,f 100,f 101,f 102,f 103,f 104,f 105,f 106,f 107,f 108,f 109,f 110,f 111,f 112,f 113,f 114,f 115,f 116]:=by
 have e:be=Mc (n:=117) (λi=>be[i.1]?.getD dr):=by
  apply aBI
  ·simp[aB]
  ·intro i h1 h2;simp[h1]
 obtain⟨f,hf⟩:∃f:Nat->ac,f=λi=>be[i]?.getD dr:=⟨_,rfl⟩;have a4:be=Mc (n:=117) (λi=>f i.1):=by rw[hf];exact e
 have q0:f 0=gG:=by rw[hf];show be[0]?.getD dr=gG;rw[h0];rfl
 have q1:f 1=a1:=by rw[hf];show be[1]?.getD dr=a1;rw[h1];rfl
 have q2:f 2=a2:=by rw[hf];show be[2]?.getD dr=a2;rw[h2];rfl
 have bm:f 3=dX:=by rw[hf];show be[3]?.getD dr=dX;rw[ap];rfl
 have Aa:f 8=NP:=by rw[hf];show be[8]?.getD dr=NP;rw[h9];rfl
 have S_:f 9=An:=by rw[hf];show be[9]?.getD dr=An;rw[iJ];rfl
 have anx:f 10=NQ:=by rw[hf];show be[10]?.getD dr=NQ;rw[oO];rfl
 have S':f 11=Ao:=by rw[hf];show be[11]?.getD dr=Ao;rw[lF];rfl
 have anz:f 12=NR:=by rw[hf];show be[12]?.getD dr=NR;rw[sc];rfl
 have en:Mc (n:=117) (λi=>f i.1)=#[f 0,f 1,f 2,f 3,f 4,f 5,f 6,f 7,f 8,f 9,f 10,f 11,f 12,f 13,f 14,f 15,f 16,f 17,f 18,f 19,f 20,f 21,f 22,f 23,f 24,f 25,f 26,f 27,f 28,f 29,f 30,f 31,f 32,f 33,f 34,f 35,f 36,f 37,f 38,f 39,f 40,f 41,f 42,f 43,f 44,f 45,f 46,f 47,f 48,f 49,f 50,f 51,f 52,f 53,f 54,f 55,f 56,f 57,f 58,f 59,f 60,f 61,f 62,f 63,f 64,f 65,f 66,f 67,f 68,f 69,f 70,f 71,f 72,f 73,f 74,f 75,f 76,f 77,f 78,f 79,f 80,f 81,f 82,f 83,f 84,f 85,f 86,f 87,f 88,f 89,f 90,f 91,f 92,f 93,f 94,f 95,f 96,f 97,f 98,f 99,f 100,f 101,f 102,f 103,f 104,f 105,f 106,f 107,f 108,f 109,f 110,f 111,f 112,f 113,f 114,f 115,f 116]:=bq;rw[q0,q1,q2,bm,Aa,S_,anx,S',anz] at en;exact⟨f,a4.trans en⟩
theorem anA (be:Array ac) (aB:be.size=117) {An Ao NS NT:ac} (iJ:be[9]? =A An) (lF:be[11]? =A Ao) (anB:be[13]? =A NS) (anC:be[14]? =A NT):∃f:Nat->ac,be=#[f 0,f 1,f 2,f 3,f 4,f 5,f 6,f 7,f 8,An,f 10,Ao,f 12,NS,NT,f 15,f 16,f 17,f 18,f 19,f 20,f 21,f 22,f 23,f 24,f 25,f 26,f 27,f 28,f 29,f 30,f 31,f 32,f 33,f 34,f 35,f 36,f 37,f 38,f 39,f 40,f 41,f 42,f 43,f 44,f 45,f 46,f 47,f 48,f 49,f 50,f 51,f 52,f 53,f 54,f 55,f 56,f 57,f 58,f 59,f 60,f 61,f 62,f 63,f 64,f 65,f 66,f 67,f 68,f 69,f 70,f 71,f 72,f 73,f 74,f 75,f 76,f 77,f 78,f 79,f 80,f 81,f 82,f 83,f 84,f 85,f 86,f 87,f 88,f 89,f 90,f 91,f 92,f 93,f 94,f 95,f 96,f 97,f 98,f 99,f 100,f 101,f 102,f 103,f 104,f 105,f 106,f 107,f 108,f 109,f 110,f 111,f 112,f 113,f 114,f 115,f 116]:=by
 have e:be=Mc (n:=117) (λi=>be[i.1]?.getD dr):=by
  apply aBI
  ·simp[aB]
  ·intro i h1 h2;simp[h1]
 obtain⟨f,hf⟩:∃f:Nat->ac,f=λi=>be[i]?.getD dr:=⟨_,rfl⟩;have a4:be=Mc (n:=117) (λi=>f i.1):=by rw[hf];exact e
 have S_:f 9=An:=by rw[hf];show be[9]?.getD dr=An;rw[iJ];rfl
 have S':f 11=Ao:=by rw[hf];show be[11]?.getD dr=Ao;rw[lF];rfl
 have anD:f 13=NS:=by rw[hf];show be[13]?.getD dr=NS;rw[anB];rfl
 have anE:f 14=NT:=by rw[hf];show be[14]?.getD dr=NT;rw[anC];rfl
 have en:Mc (n:=117) (λi=>f i.1)=#[f 0,f 1,f 2,f 3,f 4,f 5,f 6,f 7,f 8,f 9,f 10,f 11,f 12,f 13,f 14,f 15,f 16,f 17,f 18,f 19,f 20,f 21,f 22,f 23,f 24,f 25,f 26,f 27,f 28,f 29,f 30,f 31,f 32,f 33,f 34,f 35,f 36,f 37,f 38,f 39,f 40,f 41,f 42,f 43,f 44,f 45,f 46,f 47,f 48,f 49,f 50,f 51,f 52,f 53,f 54,f 55,f 56,f 57,f 58,f 59,f 60,f 61,f 62,f 63,f 64,f 65,f 66,f 67,f 68,f 69,f 70,f 71,f 72,f 73,f 74,f 75,f 76,f 77,f 78,f 79,f 80,f 81,f 82,f 83,f 84,f 85,f 86,f 87,f 88,f 89,f 90,f 91,f 92,f 93,f 94,f 95,f 96,f 97,f 98,f 99,f 100,f 101,f 102,f 103,f 104,f 105,f 106,f 107,f 108,f 109,f 110,f 111,f 112,f 113,f 114,f 115,f 116]:=bq;rw[S_,S',anD,anE] at en;exact⟨f,a4.trans en⟩
structure xI (am:Nat) (w:O) (aj N p ab bz bv:Nat) (d_:ac) (bX:Nat) (a7:Nat->Prop) (L:List bw) (b4 aS C:List Int):Prop where
 aG:mu w aj N p ab bz bv d_ bX a7 L b4 aS C
 low:(∀k,a7 k->am<=k)/\am<=aj/\am<=bz/\am<=bv/\am<=bX/\∀k,d_.ownBlock=A k->am<=k
def G2 (am:Nat) (Q:List bd) (s:Int) (aj N p ab bz bv bX:Nat) (pE:List Nat) (b:Bool) (v key:Int) (w:O):Prop:=
 ∃d_ a7 L b4 aS C,xI am w aj N p ab bz bv d_ bX a7 L b4 aS C/\(∀b∈pE,¬a7 b)/\
  ((b=ad/\v∉C/\(0<=v/\v<N)/\f_ Q s v key/\(C++[v]).length<=N/\xH Q s N v key [] L (b4.set v.toNat key) aS C)\/(b=ao/\vo Q s N b4 aS C))
theorem xI.uR {b4 aS:List Int} (h:xI am w aj N p ab bz bv d_ bX a7 L b4 aS C) (dC:am<=w.heap.size) {H:bw->Prop} (aP:rD a7 w p ab N H D):
 ∃c',xI am D aj N p ab bz bv d_ bX (t_ a7 w D) c' b4 aS C/\(∀x,x∈c'↔H x)/\Kept a7 w D/\GN ab w D:=by
 obtain⟨c',h1,h2,ap,bl⟩:=h.aG.uR aP;exact⟨c',⟨h1,λk K=>by
  rcases K with K|K
  ·exact h.low.1 k K
  ·omega,h.low.2⟩,h2,ap,bl⟩
theorem abd (bU:∀a∈Q,0<=a.2.2) {b4 aS:List Int} (h:xI am w aj N p ab bz bv d_ bX a7 L b4 aS C) (dC:am<=w.heap.size) (dK:wD Q s N L b4 aS C) (pE:List Nat) (oV:∀b∈pE,¬a7 b/\b<w.heap.size):
 ∃v key b,aE aa 166 #[J p 0] w λe D=>e=au (b8 #[.int c v,.int c key,.bool b])/\G2 am Q s aj N p ab bz bv bX pE b v key D/\Kept a7 w D/\bQ am w D/\GN ab w D:=by
 by_cases hL:∃y,y∈L
 ·obtain⟨y,az⟩:=hL;obtain⟨v,key,h1,h2,ap⟩:=SN h.aG.heap az;refine⟨v,key,ad,ap.mono ?_⟩;rintro e D ⟨rfl,aP⟩;obtain⟨c',q1,q2,bm,cZ⟩:=h.uR dC aP;obtain⟨r1,r2,eC,mv,kQ⟩:=dK.pop bU h1 h2 q2;refine⟨rfl,⟨d_,_,c',b4,aS,C,q1,λb hb hf=>?_,.inl ⟨rfl,r1,r2,eC,mv,kQ⟩⟩,bm,bm.below dC h.low.1,cZ⟩;rcases hf with hf|hf
  ·exact(oV b hb).1 hf
  ·have:=(oV b hb).2;omega
 ·have aC:∀y,y∉L:=λy az=>hL ⟨y,az⟩;refine⟨0,0,ao,(aaK h.aG.heap aC).mono ?_⟩;rintro e D ⟨rfl,fx⟩;subst D;exact⟨rfl,⟨d_,a7,L,b4,aS,C,h,λb hb=>(oV b hb).1,.inr ⟨rfl,dK.done aC⟩⟩,Kept.refl _ _,bx _ _,λ_ _ _ h _=>h⟩
def Ec (am:Nat) (w:O) (v:ac) (Q:List bd) (s:Int) (N:Nat):Prop:=
 ∃bz bv d_ b4 aS C,v=aZ #[E (A (B bz 0)) N N,E (A (B bv 0)) N N,d_]/\vo Q s N b4 aS C/\V w bz (c6 c b4) 2 (0,0)/\V w bv (c6 c aS) 3 (0,0)/\w.ownsRow am 3 1 d_ C.length (C.flatMap ec)/\am<=bz/\am<=bv
def B' (am hr ab:Nat) (w cG:O) (pl:Nat->Prop) (W:O):Prop:=bQ am w W/\hr<=W.heap.size/\(∀k,k<hr->¬pl k->W.heap[k]? =cG.heap[k]?)/\∀(k:Nat) (o:Obj),k<hr->k≠ab->cG.heap[k]? =A o->o.isCells=ao->W.heap[k]? =A o
def qu (hr ab:Nat) (pl:Nat->Prop) (X Y:O):Prop:=Kept (λk=>pl k\/hr<=k) X Y/\∀(k:Nat) (o:Obj),k<hr->k≠ab->X.heap[k]? =A o->o.isCells=ao->Y.heap[k]? =A o
theorem qu.trans {ja:O} (h:qu hr ab pl X Y) (k:qu hr ab pl Y ja):qu hr ab pl X ja:=⟨h.1.trans k.1,λi o h1 h2 ap bl=>k.2 i o h1 h2 (h.2 i o h1 h2 ap bl) bl⟩
theorem qu.refl (hr ab:Nat) (pl:Nat->Prop) (X:O):qu hr ab pl X X:=⟨Kept.refl _ _,λ_ _ _ _ h _=>h⟩
theorem qu.put {l:Nat} {dt:Obj} (aw:hr<=l):qu hr ab pl W (W.putObj l dt):=
 ⟨⟨rfl,rfl,rfl,a3,λk _ aB=>jr (λe=>aB (.inr G))⟩,λk o h1 _ h _=>(jr G).trans h⟩
theorem qu.alloc (W:O) (o:Obj):qu hr ab pl W (W.alloc o):=⟨(Kept.refl _ _).alloc o,λk _ _ _ h _=>(px W o k (gU.1 h).1).trans h⟩
def JE (am hr:Nat) (w cG:O) (xJ:Nat->Prop) (g:Raw) (aD fz:bd->Int) (Q:List bd) (s:Int) (aj N p ab bz bv:Nat) (d_:ac) (bX:Nat) (b4 C:List Int) (v:Nat) (key:Int) (pre:List (vm g aD v)) (W:O):Prop:=
 ∃L aS hi,xI am W aj N p ab bz bv d_ bX hi L b4 aS (C++[(v:Int)])/\xH Q s N (v:Int) key (pre.map λx=>(aD (gw g x.1),fz (gw g x.1),(gw g x.1).2.2)) L b4 aS C/\(∀k,hi k->xJ k\/hr<=k)/\B' am hr ab w cG (λk=>xJ k\/k=bv) W
theorem anF {xJ:Nat->Prop} {g:Raw} {fz:bd->Int} {b4:List Int} {v:Nat} {key:Int} (hb:ab<hr/\bX<hr) (dC:am<=hr) (Ae:am<=w.heap.size):
 OwnFrom hr (JE am hr w cG xJ g aD fz Q s aj N p ab bz bv d_ bX b4 C v key):=λpre X Y row aB hg ar=>by
 obtain⟨L,aS,hi,h1,h2,ap,bl,cL,eI,gu⟩:=aB;have G3:∀k,k<hr->Y.heap[k]? =X.heap[k]? :=λk K=>hg.block k (jP K cL) (λe=>by have:=(ar k e.symm).1;omega);exact⟨L,aS,hi,⟨h1.aG.grown hg ar hb,h1.low⟩,h2,ap,bl.grown hg (cM Ae bl.size) (λk e=>cM dC (ar k e).1),cM cL hg.size,λk K aC=>(G3 k K).trans (eI k K aC),λk o K aC aQ ah=>(G3 k K).trans (gu k o K aC aQ ah)⟩
theorem Ta (h:B' am hr ab w cG pl X) (dC:am<=hr) (hb:bQ X.heap.size X Y):B' am hr ab w cG pl Y:=
 ⟨h.1.trans (hb.mono (cM dC h.2.1)),cM h.2.1 hb.size,λk K aC=>(hb.block k (jP K h.2.1)).trans (h.2.2.1 k K aC),λk o K aC aQ ah=>(hb.block k (jP K h.2.1)).trans (h.2.2.2 k o K aC aQ ah)⟩
theorem abe (h:B' am hr ab w cG pl X) (dC:am<=hr) (l2:∀k,pl k->am<=k) (hb:qu hr ab pl X Y):B' am hr ab w cG pl Y:=
 ⟨h.1.trans (hb.1.below (cM dC h.2.1) (λk K=>K.elim (l2 k) (cM dC))),cM h.2.1 hb.1.size,λk K aC=>(hb.1.block k (jP K h.2.1) (λe=>e.elim aC (λe=>by omega))).trans (h.2.2.1 k K aC),λk o K aC aQ ah=>hb.2 k o K aC (h.2.2.2 k o K aC aQ ah) ah⟩
theorem anG {xJ:Nat->Prop} {g:Raw} {fz:bd->Int} {b4:List Int} {v:Nat} {key:Int} (dC:am<=hr) (l2:∀k,(xJ k\/k=bv)->am<=k) (rH:ab<hr)
 (nP:∀a∈g.arcs,0<=a.2.2) (Ap:∀a∈g.arcs,0<=fz a/\fz a<N) {pre:List (vm g aD v)} (x:vm g aD v)
 (h:JE am hr w cG xJ g aD fz (g.arcs.map λa=>(aD a,fz a,a.2.2)) s aj N p ab bz bv d_ bX b4 C v key pre W):
 aE aa 168 #[J aj 0,.int c (fz (gw g x.1)),.int c (x.1:Nat),.int c (key+(gw g x.1).2.2)] W λe D=>e=au (b8 #[])/\
  JE am hr w cG xJ g aD fz (g.arcs.map λa=>(aD a,fz a,a.2.2)) s aj N p ab bz bv d_ bX b4 C v key (pre++[x]) D/\qu hr ab (λk=>xJ k\/k=bv) W D/\KeepsFrom hr W D:=by
 obtain⟨L,aS,hi,h1,h2,ap,bl⟩:=h;obtain⟨i,abf⟩:=x;obtain⟨ag,S1⟩:=id abf;have hA:∀a∈g.arcs.map (λa=>(aD a,fz a,a.2.2)),0<=a.2.2:=λa ha=>by
  obtain⟨b,hb,rfl⟩:=jB.1 ha;exact nP b hb
 have aC:i<(g.arcs.map λa=>(aD a,fz a,a.2.2)).length:=by rw[iT];exact ag
 have Tb:(g.arcs.map λa=>(aD a,fz a,a.2.2))[i]=(aD (gw g i),fz (gw g i),(gw g i).2.2):=by rw[XF,oY ag]
 have hst:=xH.step h2 hA aC (by rw[Tb,oY ag];exact S1) (by rw[Tb,oY ag];exact Ap _ (gB ag));rw[Tb] at hst;have az:=Ap _ (gB ag);rw[<-oY ag] at az;have abg:(pre++[(⟨i,abf⟩:vm g aD v)]).map (λx:vm g aD v=>(aD (gw g x.1),fz (gw g x.1),(gw g x.1).2.2))=pre.map (λx=>(aD (gw g x.1),fz (gw g x.1),(gw g x.1).2.2))++[(aD (gw g i),fz (gw g i),(gw g i).2.2)]:=by rw[qc];rfl
 rcases hst with⟨hold,cb⟩|⟨ah,a0,cb⟩
 ·refine dl (ans h1.aG az i _ hold) λD fx=>?_;subst D;exact⟨rfl,⟨L,aS,hi,h1,by rw[abg];exact cb,ap,bl⟩,qu.refl _ _ _ _,aiC _ _⟩
 ·refine(ant h1.aG az i _ ah a0).mono ?_;rintro e D ⟨rfl,c',wE,q1,q2,bm,cZ,ek⟩;have dQ:qu hr ab (λk=>xJ k\/k=bv) W D:=⟨bm.mono λk K=>by
   rcases K with K|K
   ·rcases ap k K with h|h
    ·exact .inl (.inl h)
    ·exact .inr h
   ·exact .inl (.inr K),λk o _ aC aQ ah=>ek k o aC aQ ah⟩
  refine⟨rfl,⟨c',_,wE,⟨q1,λk K=>?_,h1.low.2⟩,by rw[abg];exact cb c' q2,λk K=>?_,abe bl dC l2 dQ⟩,dQ,?_⟩
  ·rcases cZ k K with h|h
   ·exact h1.low.1 k h
   ·exact cM dC (cM bl.2.1 h)
  ·rcases cZ k K with h|h
   ·exact ap k h
   ·exact .inr (cM bl.2.1 h)
  ·exact⟨bm.size,λk o cd aQ ah=>ek k o (λe=>by omega) aQ ah⟩
theorem V.Tc {u aI:O} {b:Nat} {t:cY} (h:V u b cs t fr) {a:cp} {v:ac} (e:aI=u.setCell a v) (hb:b≠a.block):V aI b cs t fr:=by rw[e];exact h.gr a v hb
theorem anH {aI xD dn oh kh pm:O} {cx:Option cp} {c2:Nat} {b4 aS:List Int} (h:mu w aj N p ab bz bv (E cx C.length c2) bX a7 L b4 aS C) {v:Nat} {key:Int} (iH:(C++[(v:Int)]).length<=N)
 {aF:DataW Unit} {n7:Nat} (lv:aI.ownsMap aa 3 (sN aa 3) bX n7 aF) (D2:n7<=(C++[(v:Int)]).length) (ry:S7 aF (C++[(v:Int)])) (hV:Kept (λk=>k=bX) w aI) (iJ:bQ aI.heap.size aI xD) (rB:dn=xD.setCell (B bz v) (.int c key)) (oO:bQ dn.heap.size dn oh)
 {mq:Option cp} {vp cm:Nat} (es:kh.ownsRow 0 3 1 (E mq cm vp) (C++[(v:Int)]).length ((C++[(v:Int)]).flatMap ec)) (hg:oh.grownBy kh (iB cx C.length c2).ownBlock) (gP:(iB mq cm vp).ownBlock=(iB cx C.length c2).ownBlock\/(iB mq cm vp).ownBlock=A oh.heap.size) (Aq:pm=kh.setCell (B aj 3) (E mq cm vp)):
 mu pm aj N p ab bz bv (E mq cm vp) bX a7 L (b4.set v key) aS (C++[(v:Int)])/\Kept (λk=>k=bX\/k=bz\/k=aj\/(iB cx C.length c2).ownBlock=A k) w pm:=by
 obtain⟨a1,a2,dX,jc,np⟩:=h.apart;obtain⟨mY,mr,th,xK,vq⟩:=h.xF;have dQ:Kept (λk=>k=bX\/k=bz\/k=aj\/(iB cx C.length c2).ownBlock=A k) w pm:=by
  have k2:Kept (λk=>k=bX\/k=bz\/k=aj\/(iB cx C.length c2).ownBlock=A k) w oh:=by
   refine Kept.belows ?_ oO;rw[rB];exact((hV.mono λk K=> .inl K).belows iJ).setCell (.inr (.inl rfl)) _
  have k3:Kept (λk=>k=bX\/k=bz\/k=aj\/(iB cx C.length c2).ownBlock=A k) w kh:=⟨hg.os.trans k2.os,hg.tape.trans k2.tape,hg.output.trans k2.output,cM k2.size hg.size,λk K aB=>(hg.block k (jP K k2.size) (λe=>aB (.inr (.inr (.inr e.symm))))).trans (k2.block k K aB)⟩;rw[Aq];exact k3.setCell (.inr (.inr (.inl rfl))) _
 obtain⟨JF,e4,g7⟩:=h.closed;have lq:∀{b:Nat} {cs:Array ac} {t:cY} {fr:Nat×Nat},V w b cs t fr->b≠bX:=λ{b cs t fr} hb e=>by
  subst e;obtain⟨eJ,bL,a5,_⟩:=e4;rw[show w.heap[b]? =_ from hb] at a5;cases a5
 have vh:∀{b:Nat} {cs:Array ac} {t:cY} {fr:Nat×Nat},V w b cs t fr->t≠3->(iB cx C.length c2).ownBlock≠A b:=λ{b cs t fr} hb ht e=>by
  obtain⟨_,_,aO⟩:=di h.order e;exact ht (er hb aO)
 have abh:bz≠aj:=λe=>by
  have:=er (e▸h.nf) h.aH;revert this;decide
 have anI:bv≠aj:=λe=>by
  have:=er (e▸h.oj) h.aH;revert this;decide
 have anJ:bv≠bz:=λe=>by
  have:=er (e▸h.oj) h.nf;revert this;decide
 have hP:w.heap.size<=oh.heap.size:=by
  have q1:=hV.size;have q2:=iJ.size;have bm:=oO.size;rw[rB] at bm;simp at bm;omega
 have abi:V oh aj #[J p 0,E (A (B bz 0)) N N,E (A (B bv 0)) N N,E cx C.length c2,.map (A bX)] 260:=by
  have q1:=(hV.aH h.aH (lq h.aH)).below iJ (hV.aH h.aH (lq h.aH)).lt;have q2:V dn aj #[J p 0,E (A (B bz 0)) N N,E (A (B bv 0)) N N,E cx C.length c2,.map (A bX)] 260:=by rw[rB];exact q1.gr _ _ (h8 abh)
  exact q2.aq oO
 have abj:V oh bz (c6 c (b4.set v key)) 2:=by
  have q1:=(hV.aH h.nf (lq h.nf)).below iJ (hV.aH h.nf (lq h.nf)).lt;have q2:V dn bz (c6 c (b4.set v key)) 2:=by
   rw[rB];have q:=q1.set v (.int c key)
   rwa[tO] at q
  exact q2.aq oO
 have anK:V kh aj _ _ _:=(hg.block aj abi.lt (λe=>vh h.aH bj e.symm)).trans abi;have anL:V kh bz _ _ _:=(hg.block bz abj.lt (λe=>vh h.nf bj e.symm)).trans abj;have Td:∀k,(iB mq cm vp).ownBlock=A k->¬a7 k/\k≠bv/\k≠aj:=λk K=>by
  rcases gP with e|e
  ·rw[e] at K;exact⟨(np k K).1,(np k K).2,λa4=>vh h.aH bj (a4▸K)⟩
  ·rw[e] at K;have:=eT K;exact⟨λhf=>by have:=h.heap.lt hf;omega,G,G⟩
 have anM:pm.heap[bX]? =aI.heap[bX]? :=by
  have aw:bX<aI.heap.size:=Dp lv;have anN:bX≠bz:=h8 (lq h.nf);have anO:bX≠aj:=h8 (lq h.aH);have anP:(iB cx C.length c2).ownBlock≠A bX:=λe=>by
   obtain⟨_,_,aO⟩:=di h.order e;exact lq aO rfl
  have q1:oh.heap[bX]? =aI.heap[bX]? :=by
   refine(oO.block bX ?_).trans ?_
   ·rw[rB];simp;exact jP aw iJ.size
   ·rw[rB];exact(d7 _ _ _ _ anN).trans (iJ.block bX aw)
  rw[Aq];exact(d7 _ _ _ _ anO).trans ((hg.block bX G (λe=>anP e.symm)).trans q1)
 refine⟨⟨?_,?_,?_,by rw[gN];exact h.tg,?_,h.yS,?_,⟨aF,(u_ lv anM).mono D2,ry⟩,⟨a1,a2,dX,jc,λk K=>⟨(Td k K).1,(Td k K).2.1⟩⟩,h.dR,iH⟩,dQ⟩
 ·rw[Aq];exact anK.set 3 _
 ·refine h.heap.dy dQ.size λk K=>dQ.block k (h.heap.lt K) (λe=>?_);rcases e with e|e|e|e
  ·exact jc (e▸K)
  ·exact a2 (e▸K)
  ·exact a1 (e▸K)
  ·exact(np k e).1 K
 ·rw[Aq];exact(d7 _ _ _ _ abh).trans anL
 ·exact(dQ.block bv th (λe=>by
   rcases e with e|e|e|e
   ·exact lq h.oj e
   ·exact anJ e
   ·exact anI e
   ·exact(np bv e).2 rfl)).trans h.oj
 ·rw[Aq];exact fB es λk K=>d7 _ _ _ _ (Td k K).2.2
theorem anQ {b4 aS:List Int} (h:mu w aj N p ab bz bv d_ bX a7 L b4 aS C) {v:Nat} (aK:(v:Int)<N):
 ∃aI aF,(Instr.mapUpdate 155 (.map (A bX)) (.int c v) (.int c 1)).run aa w= .ok () aI/\aI.ownsMap aa 3 (sN aa 3) bX (C.length+1) aF/\S7 aF (C++[(v:Int)])/\Kept (λk=>k=bX) w aI:=by
 obtain⟨aF,e4,g7⟩:=h.closed;have:=h.dR;have:=h.Eb;obtain⟨aI,ar,aQ,ht⟩:=e4.store n' yp (by unfold maxLen;omega) (Dq qP (t5 (a:=(v:Nat)) G)) (BQ (a:=1) bj);refine⟨aI,_,ar,aQ,λx=>?_,z5 ht⟩;by_cases e:x=(v:Int)
 ·subst e;rw[if_pos a3];exact In e4.isMap (t4 _) ..
 ·have q:(aF.put (hv (v:Int)) (.lit (.int c 1))).atKey (hv x) (.lit (.int c 0))=aF.atKey (hv x) (.lit (.int c 0)):=Ba (pc e) ..;refine q.trans ((g7 x).trans ?_);have:(x∈C++[(v:Int)])↔x∈C:=by simp[e]
  by_cases ak:x∈C
  ·rw[if_pos ak,if_pos (this.2 ak)]
  ·rw[if_neg ak,if_neg (λh=>ak (this.1 h))]
theorem xI.below {b4 aS:List Int} (h:xI am w aj N p ab bz bv d_ bX a7 L b4 aS C) (hb:bQ w.heap.size w D):xI am D aj N p ab bz bv d_ bX a7 L b4 aS C:=⟨h.aG.below hb,h.low⟩
theorem anR {pE:List Nat} {b:Bool} {key:Int} (h:G2 am Q s aj N p ab bz bv bX pE b v key w) (hb:bQ w.heap.size w D) (cd:w.heap.size<=ai):G2 am Q s aj N p ab bz bv bX (pE++[ai]) b v key D:=by
 obtain⟨d_,a7,L,b4,aS,C,h1,h2,ap⟩:=h;refine⟨d_,a7,L,b4,aS,C,h1.below hb,λx ak hf=>?_,ap⟩;rcases fJ.1 ak with ak|ak
 ·exact h2 x ak hf
 ·rw[f2.1 ak] at hf;have:=h1.aG.heap.lt hf;omega
theorem anS {pE:List Nat} {b:Bool} {key:Int} (h:G2 am Q s aj N p ab bz bv bX pE b v key w) (cd:ai∈pE) (uY:bz≠ai) (K:V w ai cs 2 fr) (x:ac):G2 am Q s aj N p ab bz bv bX pE b v key (w.setCell (B ai 0) x):=by
 obtain⟨d_,a7,L,b4,aS,C,h1,h2,ap⟩:=h;refine⟨d_,a7,L,b4,aS,C,⟨h1.aG.dy a3 λk eQ=>d7 _ _ _ _ (λe=>?_),h1.low⟩,h2,ap⟩;have e:k=ai:=e;rcases eQ with q|q|q|q|q|q
 ·exact h2 ai cd (e▸q)
 ·subst q;subst e;have:=er h1.aG.aH K;revert this;decide
 ·exact uY (q▸e)
 ·subst q;subst e;have:=er h1.aG.oj K;revert this;decide
 ·subst q;subst e;obtain⟨JF,e4,_⟩:=h1.aG.closed;obtain⟨eJ,bL,a5,_⟩:=e4;rw[show w.heap[k]? =_ from K] at a5;cases a5
 ·obtain⟨_,_,aO⟩:=di h1.aG.order q;subst e;have:=er aO K;revert this;decide
def Te (am:Nat) (w:O) (Q:List bd) (s:Int) (aj N p ab bz bv bX dc hN jN:Nat) (b:Bool) (v key:Int) (wr:O):Prop:=
 G2 am Q s aj N p ab bz bv bX [dc,hN,jN] b v key wr/\V wr dc #[E T 0 0,E T 0 0,E T 0 0] 160 (0,0)/\V wr hN #[J aj 0] 254 (0,0)/\V wr jN #[.int c key] 2 (0,0)/\bQ am w wr/\(am<=dc/\am<=hN/\am<=jN/\bz≠jN)
def Ar (aj:Nat) (w:O):Nat:=match w.cell? (B aj 3) with
 |some (E _ n _)=>n
 |_=>0
theorem abk {b4 aS:List Int} (h:mu w aj N p ab bz bv d_ bX a7 L b4 aS C):Ar aj w=C.length:=by
 obtain⟨a,n,R,rfl⟩:=h.order.ic;unfold Ar;rw[show w.cell? (B aj 3)=A (E a n R) from h.aH.cell 3];rcases h.order.2 with⟨e,h0⟩|⟨_,_,_,e,_⟩
 ·simp at e;show n=C.length;omega
 ·simp at e;show n=C.length;exact e.2.1
theorem abl {b4 aS:List Int} (h:mu w aj N p ab bz bv d_ bX a7 L b4 aS C):∃a R,d_=E a C.length R:=by
 rcases h.order.2 with⟨e,h0⟩|⟨_,_,_,e,_⟩
 ·exact⟨T,0,by rw[e,h0]⟩
 ·exact⟨_,_,e⟩
theorem abm (m:Nat) (hm:4<=m) (h6 eL q:Nat) (g:Raw) (aD fz:bd->Int) (is:DV eL fz) (N:Nat) (b1:(N:Int)=g.nodes) (sq:N<=12) (abn:g.arcs.length<=84) (nP:∀a∈g.arcs,0<=a.2.2/\a.2.2<=2147483647) (Ap:∀a∈g.arcs,0<=fz a/\fz a<N)
 (anT:∀args w,(gM h6 args).run aa w= .ok (.enter h6 args) w) (abo:∀(u:O) (v:Nat),eq u q g->(v:Int)<N->aE aa h6 #[J q 0,.int c v] u λe D=>∃ca,e=au ca/\D.ownsRow u.heap.size 3 1 ca (lj aD g v).length ((lj aD g v).flatMap ec)/\bQ u.heap.size u D)
 (NU:∀v:Nat,(v:Int)<N->(lj aD g v).length<=1000000) (s:Int) (aB:0<=s/\s<N) (sr:∀v d,f_ (g.arcs.map λa=>(aD a,fz a,a.2.2)) s v d->d<72057594037927936) (w:O) (dE:eq w q g):
 CallsIn dY m aa 92 #[J q 0,.int c s,.func (.func h6) #[J q 0] #[],.func (.func eL) #[] #[]] w λe D=>∃v,e=au v/\Ec w.heap.size D v (g.arcs.map λa=>(aD a,fz a,a.2.2)) s N/\bQ w.heap.size w D:=by
 have h1:1<=m:=G;obtain⟨Q,hA⟩:=al (g.arcs.map λa=>(aD a,fz a,a.2.2));rw[<-hA] at sr⊢;have yT:∀a∈Q,0<=a.2.2:=λa ha=>by
  rw[hA] at ha;obtain⟨b,hb,rfl⟩:=jB.1 ha;exact(nP b hb).1
 obtain⟨am,dC⟩:=al w.heap.size;obtain⟨ay,bA⟩:=al (w.alloc (an #[E T 0 0,E T 0 0,E T 0 0] 160));have aX:=dx bA;have qv:=eK bA dC;have BE:=dE.a_ (bu.bg aX);have Tf:=l3 q g ay BE;rw[<-b1] at Tf;have gn:=I Tf;have abp:=I qv;have ft:=I aX;have q_:=I BE;have go:=I dC;have cX:=I bA;have HG:=I (cv b1 (cv sq (cv abn (cv nP (cv yT (cv Ap (cv is aB)))))));have anU:=I abo;have m0:=I dE;have dM:=I hA;have JG:=I sr;have DI:=I NU;obtain⟨ud,g4⟩:=aB;have DN:(N:Int)<=12:=G;clear Tf qv aX BE dC bA b1 sq abn nP Ap is abo dE hA yT sr NU;have lo:=@Bc aa;refine sL func92 rfl trivial ?_ rfl;simp only[ntmps92,g0,fV,gp,gA,g1,gI,gJ,gK,gL,f1,fW];gi_wp2_with fail;rw[<-cX.o,<-go.o];refine⟨trivial,?_⟩;refine yH (im.2 gn.o) ?_;gi_wp2_with fail;refine⟨trivial,?_⟩;refine yH (im.2 gn.o) ?_;gi_wp2_with fail;refine pD (amZ N (bI HG.o.2.1) ay) ?_;rintro e aJ ⟨p,ab,rfl,pS,NV⟩;have kA:=q_.o.a_ (bu.bg NV);obtain⟨ba,cg⟩:=al (aJ.alloc (an #[.int c 72057594037927936] 2));have abq:=dx cg;have NW:=kA.a_ (bu.bg abq);have oX:ba.heap.size=aJ.heap.size+1:=by rw[cg];simp
 have abr:=l3 q g ba NW;rw[<-HG.o.1] at abr;have JH:ba.cell? (B aJ.heap.size 0)=A (.int c 72057594037927936):=by rw[cg];exact(V.new _ _ _ _).cell 0
 have JI:=I (aa4 72057594037927936 N HG.o.2.1 aJ.heap.size ba JH);have h4:=I cg;clear cg;gi_wp2_with fail;rw[<-h4.o];refine⟨trivial,?_⟩;refine yH (im.2 abr) ?_;gi_wp2_with fail;refine pD JI.o ?_;rintro e bi ⟨bz,rfl,NY,uY,c_⟩;obtain⟨bD,gm⟩:=al (bi.alloc (an #[.int c (-1)] 3));have cT:=dx gm;have abs:=NW.a_ (bu.bg (c_.next' cT));have kR:bD.heap.size=bi.heap.size+1:=by rw[gm];simp
 have abt:=l3 q g bD abs;rw[<-HG.o.1] at abt;have JH:bD.cell? (B bi.heap.size 0)=A (.int c (-1)):=by rw[gm];exact(V.new _ _ _ _).cell 0
 have Ed:=I (aa6 (-1) N HG.o.2.1 bi.heap.size bD JH);have nX:=I gm;have wF:=I (cv NY (cv uY (cv c_ (cv cT (cv abs kR)))));clear gm;gi_wp2_with fail;rw[<-nX.o];refine⟨trivial,?_⟩;refine yH (im.2 abt) ?_;gi_wp2_with fail;refine pD Ed.o ?_;rintro e cG ⟨bv,rfl,uU,NZ,jn⟩;obtain⟨bX,lq⟩:=al cG.heap.size;obtain⟨iv,lK⟩:=al (((cG.alloc (.map #[] 0)).alloc (an #[J p 0,E (A (B bz 0)) N N,E (A (B bv 0)) N N,E T 0 0,.map (A bX)] 260)).alloc (an #[J (bX+1) 0] 254));have vr:=tW lK;have abu:iv.heap.size=bX+3:=by rw[lK,lq];simp
 have abv:V iv (bX+1) #[J p 0,E (A (B bz 0)) N N,E (A (B bv 0)) N N,E T 0 0,.map (A bX)] 260:=by
  rw[lK];refine V.alloc ?_ _;have h:=V.new (cG.alloc (.map #[] 0)) #[J p 0,E (A (B bz 0)) N N,E (A (B bv 0)) N N,E T 0 0,.map (A bX)] 260 (0,0)
  rwa[d8,<-lq] at h
 have k9:V iv (bX+2) #[J (bX+1) 0] 254:=by
  rw[lK];have h:=V.new ((cG.alloc (.map #[] 0)).alloc (an #[J p 0,E (A (B bz 0)) N N,E (A (B bv 0)) N N,E T 0 0,.map (A bX)] 260)) #[J (bX+1) 0] 254 (0,0)
  rwa[d8,d8,<-lq] at h
 have anV:iv.ownsMap aa 3 (sN (H:=Unit) aa 3) bX 0 (.map []):=by
  rw[lK,lq];exact(XC cG aa 3 (sN (H:=Unit) aa 3)).alloc _|>.alloc _
 have xL:bQ aJ.heap.size aJ iv:=abq.next' (wF.o.2.2.1.next' (wF.o.2.2.2.1.next' (jn.next' vr)));have abw:aJ.heap.size<bi.heap.size/\bi.heap.size<cG.heap.size/\bz<bi.heap.size/\bv<cG.heap.size/\aJ.heap.size<bz/\bi.heap.size<bv/\am<aJ.heap.size/\am<ay.heap.size/\ay.heap.size<=aJ.heap.size:=by
  have:=oX;have:=wF.o.2.2.2.2.2;have:=wF.o.2.1;have:=wF.o.1.lt;have:=uU.lt;have:=wF.o.2.2.1.size;have:=jn.size;have:=abp.o.lt;have:=NV.size;omega
 have N0:mu iv (bX+1) N p ab bz bv (E T 0 0) bX (λk=>ay.heap.size<=k/\k<aJ.heap.size) [] (d5 N 72057594037927936) (d5 N (-1)) []:=by
  refine⟨abv,(pS.below xL).mono (λk K=>K) (λk K=>by have:=xL.size;omega),(wF.o.1.aq (wF.o.2.2.2.1.next' (jn.next' vr))),jD,uU.aq vr,jD,oG _ _ _ _,⟨_,anV,λv=>by simp[DataW.atKey]⟩,⟨λh=>by omega,λh=>by omega,λh=>by omega,λh=>by omega,λk K=>by cases K⟩,HG.o.2.1,cQ _⟩
 have q':xI am iv (bX+1) N p ab bz bv (E T 0 0) bX (λk=>ay.heap.size<=k/\k<aJ.heap.size) [] (d5 N 72057594037927936) (d5 N (-1)) []:=⟨N0,λk K=>by omega,G,G,G,G,λk K=>by cases K⟩;have anW:bQ am w iv:=by rw[go.o];exact ft.o.next' (NV.next' xL)
 have anX:V iv am #[E T 0 0,E T 0 0,E T 0 0] 160:=abp.o.aq (NV.next' xL);have anY:=I (NE N0.heap (id:=s) 0 a3 (show 0<=s/\s<(N:Int) from⟨ud,g4⟩));have wk:=I (cv q' (cv anW (cv anX (cv k9 (cv abu (cv abw lq))))));have yU:=I lK;have G4:=I lq;have e0:=aR abv 0;have om:=aR k9 0;clear lK lq;gi_wp2_with fail;rw[<-G4.o,<-yU.o];refine jb anY.o λeo aP=>?_;obtain⟨anZ,q1,q2,bm,_⟩:=wk.o.1.uR (cM (tM go.o) wk.o.2.1.size) aP;obtain⟨aj,cf⟩:=al (bX+1);obtain⟨hN,Ca⟩:=al (aj+1);have abx:hN=bX+2:=G;have abw:=wk.o.2.2.2.2.2.1;have abu:=wk.o.2.2.2.2.1;have an0:=wk.o.2.2.2.2.2.2;have dK:=wD.begin Q s N (show 0<=s/\s<(N:Int) from⟨ud,g4⟩) (L:=anZ) (λx=>by rw[q2];simp);have lL:bQ am w eo:=wk.o.2.1.trans (bm.below (cM (tM go.o) wk.o.2.1.size) (λk K=>by have h:=K.1;omega));have k8:V eo am #[E T 0 0,E T 0 0,E T 0 0] 160:=bm.aH wk.o.2.2.1 (λh=>by have h:=h.1;omega);have k9:V eo hN #[J aj 0] 254:=by rw[abx,cf];exact bm.aH wk.o.2.2.2.1 (λh=>by have h2:=h.2;omega)
 rw[<-cf] at q1;obtain⟨v,key,b,an1⟩:=abd HG.o.2.2.2.2.1 q1 (cM (tM go.o) lL.size) dK [am,hN] (λx ak=>by
  have iU:=bm.size;simp only[gg,iS,or_false] at ak;rcases ak with rfl|rfl
  ·exact⟨λh=>by rcases h with h|h<;>omega,G⟩
  ·exact⟨λh=>by rcases h with h|h<;>omega,G⟩)
 have om:=aR k9 0;have e0:=aR q1.aG.aH 0;have cw:=ig k8 k9 lL;have N1:aM (∀k,t_ (λk=>ay.heap.size<=k/\k<aJ.heap.size) iv eo k->k≠am/\k≠hN):=λk h=>by rcases h with h|h<;>omega
 have Tg:=I (show am<=hN/\am<=bz/\bz<eo.heap.size/\am<=aj/\am<=bv/\am<=bX/\ab<eo.heap.size from⟨G,G,bI bm.size,G,G,G,q1.aG.heap.lt q1.aG.heap.amY.1⟩);clear an0;rw[<-cf,<-Ca];clear cf Ca abx;gi_wp2_with fail;refine pD an1 ?_;rintro e fd ⟨rfl,lc,vs,oo,_⟩;obtain⟨jN,Ee⟩:=al fd.heap.size;obtain⟨nw,qw⟩:=al (fd.alloc (an #[.int c key] 2));have pU:=dx qw;have bZ:=I (show Te am w Q s aj N p ab bz bv bX am hN jN b v key nw from by
  have Ae:am<=fd.heap.size:=cM (cM (tM go.o) cw.o.2.2.size) oo.size;refine⟨anR lc pU (tM Ee.symm),?_,?_,by rw[qw,Ee];exact V.new _ _ _ _,(cw.o.2.2.trans oo).trans (pU.mono Ae),bY _,Tg.o.1,G,?_⟩
  ·exact(vs.aH cw.o.1 (λh=>(N1.o _ h).1 rfl)).below pU (vs.aH cw.o.1 (λh=>(N1.o _ h).1 rfl)).lt
  ·exact(vs.aH cw.o.2.1 (λh=>(N1.o _ h).2 rfl)).below pU (vs.aH cw.o.2.1 (λh=>(N1.o _ h).2 rfl)).lt
  ·have:=vs.size;have:=Tg.o.2.2.1;omega)
 have Th:=I (show ab<nw.heap.size/\am<=nw.heap.size from⟨by have:=vs.size;have:=Tg.o.2.2.2.2.2.2;have:=pU.size;omega,by have:=cw.o.2.2.size;have:=oo.size;have:=pU.size;have:=go.o;omega⟩);have an2:=I Ee;have an3:=I qw;clear Ee qw;gi_wp2_with fail;rw[<-an3.o,<-an2.o];refine Xo (λa wr=>∃(be:Array ac) (ds:List j2) (v key:Int) (b:Bool) (jN:Nat),a={tmps:=be,defers:=ds}/\be.size=117/\be[0]? =A (J q 0)/\be[1]? =A (.int c s)/\be[2]? =A (.func (.func h6) #[J q 0] #[])/\be[3]? =A (.func (.func eL) #[] #[])/\be[8]? =A (J am 0)/\be[9]? =A (J hN 0)/\be[10]? =A (.int c v)/\be[11]? =A (J jN 0)/\be[12]? =A (.bool b)/\
  kq (am+1) wr ds/\Te am w Q s aj N p ab bz bv bX am hN jN b v key wr/\ab<wr.heap.size/\am<=wr.heap.size) (λ_ wr=>N+1-Ar aj wr) ?_ ?_
 ·exact⟨_,[],v,key,b,jN,rfl,rfl,rfl,rfl,rfl,rfl,rfl,rfl,rfl,rfl,rfl,trivial,bZ.o,Th.o⟩
 rintro _ wr ⟨be,ds,v,key,b,jN,rfl,hP,xd,lC,mD,xf,Mm,uP,t10,t11,t12,jT,⟨⟨d_,a7,L,b4,aS,C,q',oV,N2⟩,k8,k9,k11,gQ,DE⟩,an4,ti⟩;obtain⟨f,rfl⟩:=anw be hP xd lC mD xf Mm uP t10 t11 t12;cases b with
 |false=>
  have b3:vo Q s N b4 aS C:=by
   rcases N2 with⟨h,_⟩|⟨_,h⟩
   ·cases h
   ·exact h
  obtain⟨cx,c2,rfl⟩:=abl q'.aG;have om:=aR k9 0;have r1:=aR q'.aG.aH 1;have r2:=aR q'.aG.aH 2;have eC:=aR q'.aG.aH 3;have fU:=aR k8 0;have fO:=aR k8 1;have fD:=aR k8 2;have gx:=jw k8;have j5:=gx 0;have f6:=gx 1;have eF:=gx 2;have dd:=I (cv b3 (cv q' (cv k8 (cv gQ (cv jT ti)))));gi_wp2_with fail;have an5:=((dd.o.2.2.1.set 0 (E (A (B bz 0)) N N)).set 1 (E (A (B bv 0)) N N)).set 2 (E cx C.length c2);have an6:=((dd.o.2.2.2.1.setCell (p:=B am 0) (bY _) (E (A (B bz 0)) N N)).setCell (p:=B am 1) (bY _) (E (A (B bv 0)) N N)).setCell (p:=B am 2) (bY _) (E cx C.length c2);have an7:bz≠am:=λe=>by
   have:=er (e▸dd.o.2.1.aG.nf) dd.o.2.2.1;revert this;decide
  have an8:bv≠am:=λe=>by
   have:=er (e▸dd.o.2.1.aG.oj) dd.o.2.2.1;revert this;decide
  have an9:∀k,(iB cx C.length c2).ownBlock=A k->k≠am:=λk K e=>by
   obtain⟨_,_,aO⟩:=di dd.o.2.1.aG.order K;have:=er (e▸aO) dd.o.2.2.1;revert this;decide
  have tj:∀k,k≠am->(((wr.setCell (B am 0) (E (A (B bz 0)) N N)).setCell (B am 1) (E (A (B bv 0)) N N)).setCell (B am 2) (E cx C.length c2)).heap[k]? =wr.heap[k]? :=λk K=>by
   rw[d7 _ _ _ _ K,d7 _ _ _ _ K,d7 _ _ _ _ K]
  have Bx:=(dd.o.2.2.2.2.1.a_ (D:=((wr.setCell (B am 0) (E (A (B bz 0)) N N)).setCell (B am 1) (E (A (B bv 0)) N N)).setCell (B am 2) (E cx C.length c2)) (λaF fh _=>tj aF G)).mono (Qw am);refine DC a3 _ _ Bx an6 λD eQ fi=>?_;have nx:=eQ.aH an5;have gc:D.cell? (B am 0)=A (E (A (B bz 0)) N N):=nx.cell 0;have f8:D.cell? (B am 1)=A (E (A (B bv 0)) N N):=nx.cell 1;have h7:D.cell? (B am 2)=A (E cx C.length c2):=nx.cell 2;have Bm:V D bz (c6 c b4) 2:=eQ.aH ((tj bz an7).trans dd.o.2.1.aG.nf);have kC:V D bv (c6 c aS) 3:=eQ.aH ((tj bv an8).trans dd.o.2.1.aG.oj);have an_:D.ownsRow am 3 1 (E cx C.length c2) C.length (C.flatMap ec):=Am (fB dd.o.2.1.aG.order λk K=>by
   obtain⟨_,_,aO⟩:=di dd.o.2.1.aG.order K;exact(eQ.aH ((tj k (an9 k K)).trans aO)).trans (show _=_ from aO).symm) dd.o.2.1.low.2.2.2.2.2
  refine⟨aZ #[E (A (B bz 0)) N N,E (A (B bv 0)) N N,E cx C.length c2],by simp[gq,results92,gc,f8,h7,go_sem],_,rfl,?_,by rw[<-go.o];exact fi⟩;rw[<-go.o];exact⟨bz,bv,_,b4,aS,C,rfl,dd.o.1,Bm,kC,an_,dd.o.2.1.low.2.2.1,dd.o.2.1.low.2.2.2.1⟩
 |true=>
  obtain⟨N3,⟨q9,oU⟩,fh,iH,cb⟩:v∉C/\(0<=v/\v<N)/\f_ Q s v key/\(C++[v]).length<=N/\xH Q s N v key [] L (b4.set v.toNat key) aS C:=by
   rcases N2 with⟨_,h⟩|⟨h,_⟩
   ·exact h
   ·cases h
  have aDi:=fh.1.s8 HG.o.2.2.2.2.1;have aDj:=JG.o v key fh;obtain⟨n,rfl⟩:∃n:Nat,v=(n:Int):=⟨v.toNat,G⟩;rw[ko] at cb;obtain⟨cx,c2,rfl⟩:=abl q'.aG;have iD:=q'.aG.look ⟨q9,oU⟩;rw[if_neg N3] at iD;obtain⟨aI,aF,BT,lv,ry,ue⟩:=anQ q'.aG oU;have JJ:∀{b:Nat} {cs:Array ac} {t:cY} {fr:Nat×Nat},V wr b cs t fr->b≠bX:=λ{b cs t fr} hb e=>by
   subst e;obtain⟨JF,e4,_⟩:=q'.aG.closed;obtain⟨eJ,bL,a5,_⟩:=e4;rw[show wr.heap[b]? =_ from hb] at a5;cases a5
  have xM:=ue.aH k8 (JJ k8);have aby:=ue.aH k9 (JJ k9);have abz:=ue.aH k11 (JJ k11);have abA:=ue.aH q'.aG.aH (JJ q'.aG.aH);have Ti:=ue.aH q'.aG.nf (JJ q'.aG.nf);have abB:n<b4.length:=by rw[q'.aG.tg];omega
  have xN:aM (∀u,bQ aI.heap.size aI u->u.cell? (B hN 0)=A (J aj 0)/\u.cell? (B aj 1)=A (E (A (B bz 0)) N N)/\u.cell? (B jN 0)=A (.int c key)):=λu Z=>⟨(aby.aq Z).cell 0,(abA.aq Z).cell 1,(abz.aq Z).cell 0⟩;have Tj:aM (∀u,bQ aI.heap.size aI u->(∃z,u.cell? (B bz n)=A z)/\u.frozen? (B bz n)=ao):=λu Z=>⟨⟨_,by rw[(Ti.aq Z).cell];exact kd _ _ n abB⟩,(Ti.aq Z).free n (.inr (cQ _))⟩;have om:=aR k9 0;have mv:=aR q'.aG.aH 4;have Tk:(n:Int)<N:=oU;have e_:=I (cv q' (cv oV (cv N3 (cv fh (cv iH (cv cb (cv lv (cv ry ue))))))));have bP:=I (cv k8 (cv k9 (cv k11 (cv gQ (cv DE (cv jT (cv an4 ti)))))));have N4:=I (cv xM (cv aby (cv abz (cv abA (cv Ti abB)))));gi_wp2_with fail;refine Dt ds (λ_ _=>False) (λ_ _ _ _ h=>h.elim) (Dv (F:=dY) (n:=m) (λD=>D.cell? (B hN 0)=A (J aj 0)/\D.cell? (B aj 1)=A (E (A (B bz 0)) N N)/\D.cell? (B jN 0)=A (.int c key)) 8 rfl ?_);change ej _ _ _ _ _ _ _ 9 _ _ aI.drew;obtain⟨et,dm⟩:=al aI.drew;have aL:=I (show bQ aI.heap.size aI et by rw[dm];exact(bx _ _).drew);rw[<-dm];clear dm;refine lH 0 (J aj 0) (xN.o _ aL.o) ?_;refine ct 1 (J aj 0) (λ_=>xN.o _ aL.o) ?_;refine ct 2 (J aj 1) (λ_=>xN.o _ aL.o) ?_;refine ct 3 (J aj 1) (λ_=>xN.o _ aL.o) ?_;refine lH 4 (E (A (B bz 0)) N N) (xN.o _ aL.o) ?_;refine ct 5 (.int c n) (λ_=>xN.o _ aL.o) ?_;refine lH 6 (.int c key) (xN.o _ aL.o) ?_;refine ct 7 (J bz n) (λ_=>xN.o _ aL.o) ?_;obtain⟨⟨ame,D4⟩,aDk⟩:=Tj.o et aL.o;obtain⟨dn,rB⟩:=al (et.setCell (B bz n) (.int c key));refine dJ 8 ?_;refine lG dn ?_ (he:=by rw[rB];go_simp);have Ag:=I rB;clear rB;refine⟨gj,?_⟩;refine fc (tQ.normal ?_);have aDl:=N4.o.1.aq aL.o;have an':=N4.o.2.1.aq aL.o;have aDm:=N4.o.2.2.1.aq aL.o;have aoa:=N4.o.2.2.2.1.aq aL.o;have abC:am≠bz:=λe=>by
   have:=er (e▸bP.o.1) e_.o.1.aG.nf;revert this;decide
  have aob:hN≠bz:=λe=>by
   have:=er (e▸bP.o.2.1) e_.o.1.aG.nf;revert this;decide
  have aoc:aj≠bz:=λe=>by
   have:=er (e▸e_.o.1.aG.aH) e_.o.1.aG.nf;revert this;decide
  have yV:=an'.Tc Ag.o aob;have abD:=aoa.Tc Ag.o aoc;have ss:aM (∀u,bQ dn.heap.size dn u->u.cell? (B hN 0)=A (J aj 0)/\u.cell? (B aj 3)=A (E cx C.length c2)):=λu Z=>⟨(yV.aq Z).cell 0,(abD.aq Z).cell 3⟩;have hz:=I (show bQ aI.heap.size aI et from aL.o);gi_wp2_with fail;refine Dt ds (λ_ _=>False) (λ_ _ _ _ h=>h.elim) (Dv (F:=dY) (n:=m) (λD=>D.cell? (B hN 0)=A (J aj 0)/\D.cell? (B aj 3)=A (E cx C.length c2)) 12 rfl ?_);change ej _ _ _ _ _ _ _ 13 _ _ dn.drew;obtain⟨abE,dm⟩:=al dn.drew;have aL:=I (show bQ dn.heap.size dn abE by rw[dm];exact(bx _ _).drew);rw[<-dm];clear dm;refine lH 0 (J aj 0) (ss.o _ aL.o) ?_;refine lH 1 (J aj 0) (ss.o _ aL.o) ?_;refine ct 2 (J aj 0) (λ_=>ss.o _ aL.o) ?_;refine ct 3 (J aj 1) (λ_=>ss.o _ aL.o) ?_;refine ct 4 (J aj 3) (λ_=>ss.o _ aL.o) ?_;refine lH 5 (E cx C.length c2) (ss.o _ aL.o) ?_;refine ct 6 (.int c n) (λ_=>ss.o _ aL.o) ?_;refine Bl ?_;intro H fH be b3;have dd:=I fH;have eW:=I b3;clear fH b3;suffices Tl:∀(u:O) (ka:Nat),aM (bQ dn.heap.size dn u)->aM (V u ka #[.int c n] 3 (0,0)/\dn.heap.size<=ka)->H 5 #[ad,ad,ad,ad,ad,ad,ad,ad,ao,ao,ao,ao,ao] {tmps:=(be.setIfInBounds 90 (E (A (B ka 0)) 1 1)),defers:=ds} u from by
   have ta:∀(u:O),aM (bQ dn.heap.size dn u)->H 6 #[ad,ad,ad,ad,ad,ad,ad,ao,ao,ao,ao,ao,ao] {tmps:=be,defers:=ds} u:=by
    intro u aL;rw[dd.o,eW.o];refine dJ 7 ?_;have hb:bQ u.heap.size u (u.alloc (an #[.int c n] 3)):=fb;have hf:V (u.alloc (an #[.int c n] 3)) u.heap.size #[.int c n] 3 (0,0)/\dn.heap.size<=u.heap.size:=⟨V.new _ _ _ _,aL.o.size⟩;refine gD (E (A (B u.heap.size 0)) 1 1) (u.alloc (an #[.int c n] 3)) ?_;have kI:=aL;have aL:aM (bQ dn.heap.size dn (u.alloc (an #[.int c n] 3))):=I (kI.o.trans (hb.mono kI.o.size));refine⟨λ_=>ss.o _ aL.o,?_⟩;simp only[bN,bM,bO];have q:=Tl _ u.heap.size aL (I hf);rw[dd.o,eW.o] at q;simp only[bN,bM,bO] at q⊢;exact q
   exact ta abE aL
  intro u ka aL G5;rw[dd.o,eW.o];simp only[bN,bM,bO];have fZ:u.ownsRow 0 3 1 (E cx C.length c2) C.length (C.flatMap ec):=fB e_.o.1.aG.order λk K=>by
   obtain⟨_,_,aO⟩:=di e_.o.1.aG.order K;have fO:k≠bX:=λe=>by
    subst e;obtain⟨JF,e4,_⟩:=e_.o.1.aG.closed;obtain⟨eJ,bL,a5,_⟩:=e4;rw[show wr.heap[k]? =_ from aO] at a5;cases a5
   have fD:k≠bz:=λe=>by
    have:=er (e▸aO) e_.o.1.aG.nf;revert this;decide
   have f8:=e_.o.2.2.2.2.2.2.2.2.aH aO fO;have h7:=f8.aq hz.o;have oq:=h7.Tc Ag.o fD;exact(oq.aq aL.o).trans (show _=_ from aO).symm
  obtain⟨mq,cm,vp,kh,hE,es,kH,gP⟩:=Je 0 _ C n u ka fZ G5.o.1 (bI e_.o.1.aG.Eb) (cQ _);have kA:cm=(C++[(n:Int)]).length:=by
   rcases es.2 with⟨e,h0⟩|⟨_,_,_,e,_⟩
   ·simp at h0
   ·simp at e;simpa using e.2.1
  have abF:V kh hN #[J aj 0] 254:=Sd fZ kH (yV.aq aL.o) bj;have DY:=Sd fZ kH (abD.aq aL.o) bj;have DP:=aR abF 0;have oM:=aR DY 3;have aDn:=DY.free 3 (.inr (cQ _));refine dJ 8 ?_;refine tP (ca:=E mq cm vp) (D:=kh) rfl rfl rfl (by rfl) (.tmp 88) (.tmp 90) _ _ rfl hE ?_;refine⟨λ_=>⟨DP,oM⟩,?_⟩;simp only[bN,bM,bO];refine ct 9 (J aj 0) (λ_=>⟨DP,oM⟩) ?_;refine ct 10 (J aj 1) (λ_=>⟨DP,oM⟩) ?_;refine ct 11 (J aj 3) (λ_=>⟨DP,oM⟩) ?_;obtain⟨pm,Aq⟩:=al (kh.setCell (B aj 3) (E mq cm vp));refine jG 12 pm ?_ (he:=by rw[Aq];go_simp);refine fc (tQ.normal ?_);obtain⟨aod,yW⟩:=anH e_.o.1.aG e_.o.2.2.2.2.1 e_.o.2.2.2.2.2.2.1 (by rw[gW];exact bY _) e_.o.2.2.2.2.2.2.2.1 e_.o.2.2.2.2.2.2.2.2 hz.o Ag.o aL.o (by rw[<-kA] at es⊢;exact es) kH gP Aq;have ti:=e_.o.1.low;have abG:am<=wr.heap.size:=bP.o.2.2.2.2.2.2.2;have Cb:bQ am w pm:=bP.o.2.2.2.1.trans (yW.below abG (λk K=>by
   rcases K with e|e|e|e
   ·rw[e];exact ti.2.2.2.2.1
   ·rw[e];exact ti.2.2.1
   ·rw[e];exact ti.2.1
   ·exact ti.2.2.2.2.2 k e))
  have abH:wr.heap.size<=u.heap.size:=by
   have fO:=e_.o.2.2.2.2.2.2.2.2.size;have fD:=hz.o.size;have iU:=aL.o.size;have uf:dn.heap.size=et.heap.size:=by rw[Ag.o];simp
   omega
  have aoe:xI am pm aj N p ab bz bv (E mq cm vp) bX a7 L (b4.set n key) aS (C++[(n:Int)]):=⟨aod,ti.1,ti.2.1,ti.2.2.1,ti.2.2.2.1,ti.2.2.2.2.1,λk K=>by
   rcases gP with e|e
   ·rw[e] at K;exact ti.2.2.2.2.2 k K
   ·rw[e] at K;have:=eT K;omega⟩
  have vd:∀{b:Nat} {cs:Array ac} {t:cY} {fr:Nat×Nat},V wr b cs t fr->b≠bz->t≠260->t≠3->V pm b cs t fr:=λ{b cs t fr} hb hg ht yE=>yW.aH hb (λe=>by
   rcases e with e|e|e|e
   ·subst e;obtain⟨JF,e4,_⟩:=e_.o.1.aG.closed;obtain⟨eJ,bL,a5,_⟩:=e4;rw[show wr.heap[b]? =_ from hb] at a5;cases a5
   ·exact hg e
   ·subst e;exact ht (er hb e_.o.1.aG.aH)
   ·obtain⟨_,_,aO⟩:=di e_.o.1.aG.order e;exact yE (er hb aO))
  have aof:=vd bP.o.1 (λe=>by
   have:=er (e▸bP.o.1) e_.o.1.aG.nf;revert this;decide) bj bj
  have aog:=vd bP.o.2.1 (λe=>by
   have:=er (e▸bP.o.2.1) e_.o.1.aG.nf;revert this;decide) bj bj
  have aoh:=vd bP.o.2.2.1 (h8 bP.o.2.2.2.2.1.2.2.2) bj bj;have N5:kq (am+1) pm ds:=bP.o.2.2.2.2.2.1.a_ λe9 h1 ⟨dS,fy,fm⟩=>yW.block e9 (bP.o.2.2.2.2.2.1.lt dS fy e9 fm) (λe=>by
   have Ef:=bP.o.2.2.2.2.2.1.at dS fy e9 fm;rcases e with e|e|e|e
   ·subst e;obtain⟨JF,e4,_⟩:=e_.o.1.aG.closed;obtain⟨eJ,bL,a5,_⟩:=e4;rw[Ef] at a5;cases a5
   ·subst e;rw[show wr.heap[e9]? =_ from e_.o.1.aG.nf] at Ef;cases Ef
   ·subst e;rw[show wr.heap[e9]? =_ from e_.o.1.aG.aH] at Ef;cases Ef
   ·obtain⟨_,_,aO⟩:=di e_.o.1.aG.order e;rw[show wr.heap[e9]? =_ from aO] at Ef;cases Ef)
  have aoi:eq pm q g:=m0.o.a_ (bu.bg (by rw[<-go.o];exact Cb));have ks:=I (anU.o pm n aoi Tk);have i9:=I (cv aoe (cv Cb (cv aof (cv aog (cv aoh (cv N5 (cM abG yW.size)))))));have nv:=I (show ab<pm.heap.size/\Ar aj wr=C.length/\¬a7 am/\¬a7 hN/\¬a7 jN from⟨jP bP.o.2.2.2.2.2.2.1 yW.size,abk e_.o.1.aG,e_.o.2.1 am a3,e_.o.2.1 hN a3,e_.o.2.1 jN a3⟩);have Eg:=ig e_.o.2.2.2.2.2.1 e_.o.2.2.1 e_.o.2.2.2.1;clear kA Aq;have DE:=bP.o.2.2.2.2.1;gi_wp2_with fail;refine pD ks.o ?_;rintro e bD ⟨ca,rfl,Tm,cT⟩;obtain⟨wx,Aj,xg,rfl⟩:=Tm.ic;gi_wp2_with fail;refine jb (anl _ wx Aj xg eL bD) λcG fq=>?_;obtain⟨fv,ng⟩:=al bD.heap.size;rw[<-ng];have jn:=tW fq;have Cc:cG.heap.size=fv+3:=by rw[fq,ng];simp
  have abI:V cG fv #[J q 0] 62:=by rw[fq,ng];exact((V.new _ _ _ _).alloc _).alloc _
  have z3:V cG (fv+1) #[E wx Aj xg] 41:=by
   rw[fq,ng];refine V.alloc ?_ _;have h:=V.new (bD.alloc (an #[J q 0] 62)) #[E wx Aj xg] 41 (0,0)
   rwa[d8] at h
  have abJ:V cG (fv+2) #[.func (.func eL) #[] #[]] 153:=by
   rw[fq,ng];have h:=V.new ((bD.alloc (an #[J q 0] 62)).alloc (an #[E wx Aj xg] 41)) #[.func (.func eL) #[] #[]] 153 (0,0)
   rwa[d8,d8] at h
  have Eh:bQ pm.heap.size pm cG:=cT.next' jn;have N6:=o' Tm jn;have abK:pm.heap.size<=fv:=by rw[ng];exact cT.size
  have Tn:=i9.o.2.2.2.2.2.2;have abL:=i9.o.1.below Eh;have k8:=i9.o.2.2.1.aq Eh;have k9:=i9.o.2.2.2.1.aq Eh;have k11:=i9.o.2.2.2.2.1.aq Eh;have abM:bv<pm.heap.size:=i9.o.1.aG.oj.lt;have To:∀k,a7 k->k<pm.heap.size:=λk K=>i9.o.1.aG.heap.lt K;have abN:bX<pm.heap.size:=i9.o.1.aG.xF.2.2.2.1;obtain⟨hr,N7⟩:=al cG.heap.size;have abO:bQ am w cG:=i9.o.2.1.trans (Eh.mono Tn);have N8:B' am hr ab w cG (λk=>a7 k\/k=bv) cG:=⟨abO,tM N7,λ_ _ _=>rfl,λ_ _ _ _ h _=>h⟩;have abP:∀X,B' am hr ab w cG (λk=>a7 k\/k=bv) X->aaU g (lj aD g n) q (fv+1) fv (fv+2) eL (E wx Aj xg) X:=λX hy=>by
   have b9:∀k,pm.heap.size<=k->k<hr->X.heap[k]? =cG.heap[k]? :=λk h1 h2=>hy.2.2.1 k h2 (λe=>e.elim (λe=>by have:=To k e;omega) (λe=>by omega));refine⟨m0.o.a_ (bu.bg (by rw[<-go.o];exact hy.1)),jv rfl (fB N6 λk K=>b9 k (di N6 K).1 (by rw[N7];exact(di N6 K).2.choose_spec.lt)),(b9 _ G G).trans z3,(b9 _ G G).trans abI,(b9 _ G G).trans abJ⟩
  have iQ:SeqStopsK dY (m-1) aa 253 #[J (fv+1) 0,J fv 0,J (fv+2) 0] (NG (g:=g) (aD:=aD) (v:=(n:Nat)) fz) (qu hr ab (λk=>a7 k\/k=bv)) (λce=>∀x,x∈ce) (λ_=>True) (lj aD g n).length cG:=λgd bG iu W hb ee _ ei h0=>
   anm (m-1) G gd (fv+1) fv (fv+2) q eL g aD fz n (by rw[<-HG.o.1];exact Tk) HG.o.2.2.2.2.2.2.1 _ rfl (DI.o n Tk) (E wx Aj xg) bG iu (λx X Y ak As=>ee x X Y T ak ⟨As.os,As.tape,As.output,As.size,λk K _=>As.block k K⟩ (λU e=>by cases e)) (qu hr ab (λk=>a7 k\/k=bv)) (B' am hr ab w cG (λk=>a7 k\/k=bv)) abP (λX Y hy As=>Ta hy G As) (λX Y hy As=>abe hy G (λk K=>K.elim (i9.o.1.low.1 k) (λe=>by rw[e];exact i9.o.1.low.2.2.2.1)) As) ei W (Ta N8 G hb) h0
  have h0:JE am hr w cG a7 g aD fz Q s aj N p ab bz bv (E mq cm vp) bX (b4.set n key) C n key [] cG:=⟨L,aS,a7,abL,Eg.o.1,λk K=> .inl K,N8⟩;have vt:=I iQ;have hM:=I h0;have g8:=I (cv k8 (cv k9 (cv k11 (cv N7 (cv Eh (cv abK (cv Cc (cv abM (cv To (cv abN (cv Tn N8)))))))))));clear fq ng jn Cc abI z3 abJ Eh Tm cT N6 abK Tn abL k8 k9 k11 abM To abN N7 abO N8 abP iQ h0 ks;gi_wp2_with fail;refine wpIn_rangeFunc_ownH (F:=dY) rfl h1 (gf:=253) (lb:=#[J (fv+1) 0,J fv 0,J (fv+2) 0]) rfl trivial (fg aBA bq rfl)
   vt.o (λh k=>qu.trans h k) (λW l o dt aw _ _ _=>qu.put (by rw[g8.o.2.2.2.1];exact aw)) (bx _ _) (λ_=>rfl)
   (JE am hr w cG a7 g aD fz Q s aj N p ab bz bv (E mq cm vp) bX (b4.set n key) C n key) (λ_ _ _=>False) (by rw[<-g8.o.2.2.2.1];exact anF ⟨g3 nv.o.1 g8.o,bI g8.o⟩ (bI g8.o) (tM go.o)) (λ_ _ _ _ _ aB _ _=>aB) hM.o
   (λx fM W=>∃ci,fM.defers=[]/\fM.tmps.size=117/\fM.tmps[9]? =A (J hN 0)/\fM.tmps[11]? =A (J jN 0)/\fM.tmps[13]? =A (.int c (x.1:Nat))/\fM.tmps[14]? =A (J ci 0)/\V W ci #[.int c 0,.int c (fz (gw g x.1)),.int c (gw g x.1).2.2] 57)
   (λx fM _ X Y row aB hg ar=>by obtain⟨ci,fO,fD,iU,uf,JK,JL,xO⟩:=aB;exact⟨ci,fO,fD,iU,uf,JK,JL,B0 hg ar xO⟩) ?assign ?body ?done ?stop
  case assign=>
   intro l pre x W aT bS dQ;dsimp only[NG];clear vt hM;gi_wp2_with fail;obtain⟨t9,G6,wE,js,mC,xc,xh⟩:=bS;have oa:bQ W.heap.size W (W.alloc (an #[.int c 0,.int c (fz (gw g x.1)),.int c (gw g x.1).2.2] 57)):=fb;exact dQ _ _ ((aIK W _).from _) (qu.alloc W _) ⟨t9,G6,wE,js.below oa,mC,xc,Ta xh (bI g8.o) oa⟩ ⟨W.heap.size,rfl,rfl,rfl,rfl,rfl,rfl,V.new _ _ _ _⟩
  case body=>
   rintro l pre x ⟨be,abQ⟩ W aw pG bS ⟨ci,fO,fD,iU,uf,JK,JL,xO⟩ a0;simp only at fO fD iU uf JK JL;subst fO;obtain⟨eF,rfl⟩:=anA be fD iU uf JK JL;clear fD iU uf JK JL;have JM:=anG (g:=g) (aD:=aD) (fz:=fz) (s:=s) (am:=am) (hr:=hr) (w:=w) (cG:=cG) (xJ:=a7) (aj:=aj) (N:=N) (p:=p) (ab:=ab) (bz:=bz) (bv:=bv) (d_:=E mq cm vp) (bX:=bX) (b4:=b4.set n key) (C:=C) (v:=n) (key:=key) (bI g8.o) (λk K=>K.elim (i9.o.1.low.1 k) (λe=>by rw[e];exact i9.o.1.low.2.2.2.1)) (g3 nv.o.1 g8.o) (λa ha=>(HG.o.2.2.2.1 a ha).1) HG.o.2.2.2.2.2.1 (pre:=pre) x (W:=W) (by rw[<-dM.o];exact bS);rw[<-dM.o] at JM;have abR:=HG.o.2.2.2.1 (gw g x.1) (by obtain⟨i,ag,_⟩:=x;show gw g i∈_;rw[oY ag];exact gB ag);obtain⟨y,az⟩:=al (fz (gw g x.1));obtain⟨tN,Tp⟩:=al ((gw g x.1).2.2);obtain⟨aDo,abS⟩:∃y:Nat,y=x.1:=⟨_,rfl⟩;rw[<-az,<-Tp] at JM xO;rw[<-Tp] at abR;rw[<-abS] at JM⊢;obtain⟨aDp,aDq⟩:=abR;have d1:=xO.cell 1;have d2:=xO.cell 2;have vd:∀b,b<hr->¬a7 b->b≠bv->W.heap[b]? =cG.heap[b]? :=λb h1 h2 ap=>by
    obtain⟨_,_,_,_,_,_,xh⟩:=bS;exact xh.2.2.1 b h1 (λe=>e.elim h2 ap)
   have G7:hN≠bv:=λe=>by
    have:=er (e▸g8.o.2.1) ((i9.o.1.below g8.o.2.2.2.2.1).aG.oj);revert this;decide
   have N9:jN≠bv:=λe=>by
    have:=er (e▸g8.o.2.2.1) ((i9.o.1.below g8.o.2.2.2.2.1).aG.oj);revert this;decide
   have Mn:=(show V W hN #[J aj 0] 254 (0,0) from(vd hN (by rw[g8.o.2.2.2.1];exact g8.o.2.1.lt) nv.o.2.2.2.1 G7).trans g8.o.2.1).cell 0;have d11:=(show V W jN #[.int c key] 2 (0,0) from(vd jN (by rw[g8.o.2.2.2.1];exact g8.o.2.2.1.lt) nv.o.2.2.2.2 N9).trans g8.o.2.2.1).cell 0;simp only[la,py,pz] at d1 d2 Mn d11;have abT:=I JM;clear JM bS vd G7 N9 xO az Tp abS vt hM a0;gi_wp2_with fail;refine⟨trivial,λ_=>G,?_⟩;refine(FQ l (im.2 abT.o)).mono ?_;rintro e fK ⟨rfl,js,mC,xc⟩;have qX:=ig js mC xc;clear js mC xc d1 d2 Mn d11 abT;gi_wp2_with fail;rw[<-g8.o.2.2.2.1];exact⟨qX.o.2.2,qX.o.2.1,qX.o.1⟩
  case done=>
   rintro aF ce W fh SB ⟨t9,G6,wE,js,mC,xc,xh⟩ ly;have Cd:wD Q s N t9 (b4.set n key) G6 (C++[(n:Int)]):=mC.end λa ha aK=>by
    rw[dM.o] at ha;obtain⟨b,hb,rfl⟩:=jB.1 ha;obtain⟨i,ag,rfl⟩:=FL.1 hb;refine jB.2 ⟨⟨i,ag,aK⟩,SB _,?_⟩;show(aD (gw g i),fz (gw g i),(gw g i).2.2)=_;rw[oY ag]
   have aoj:am≠bv:=λe=>by
    have:=er (e▸g8.o.1) ((i9.o.1.below g8.o.2.2.2.2.1).aG.oj);revert this;decide
   have G7:hN≠bv:=λe=>by
    have:=er (e▸g8.o.2.1) ((i9.o.1.below g8.o.2.2.2.2.1).aG.oj);revert this;decide
   have N9:jN≠bv:=λe=>by
    have:=er (e▸g8.o.2.2.1) ((i9.o.1.below g8.o.2.2.2.2.1).aG.oj);revert this;decide
   have aok:V W am #[E T 0 0,E T 0 0,E T 0 0] 160:=(xh.2.2.1 am (by rw[g8.o.2.2.2.1];exact g8.o.1.lt) (λe=>e.elim nv.o.2.2.1 aoj)).trans g8.o.1;have aol:V W hN #[J aj 0] 254:=(xh.2.2.1 hN (by rw[g8.o.2.2.2.1];exact g8.o.2.1.lt) (λe=>e.elim nv.o.2.2.2.1 G7)).trans g8.o.2.1;have aom:V W jN #[.int c key] 2:=(xh.2.2.1 jN (by rw[g8.o.2.2.2.1];exact g8.o.2.2.1.lt) (λe=>e.elim nv.o.2.2.2.2 N9)).trans g8.o.2.2.1;obtain⟨qx,Tq⟩:=al W.heap.size;obtain⟨dI,JN⟩:=al (W.alloc (an #[.int c key] 2));have ck:=dx JN;have lA:=eK JN Tq;have Tr:am<=W.heap.size:=g3 xh.2.1 g8.o;have abU:=aok.aq ck;have Ts:=aol.aq ck;have At:=js.below ck;obtain⟨v2,Ce,cq,JO⟩:=abd HG.o.2.2.2.2.1 At (cM Tr ck.size) Cd [am,hN,qx] (λx ak=>by
    simp only[gg,iS,or_false] at ak;rcases ak with rfl|rfl|rfl
    ·exact⟨λh=>(xc _ h).elim nv.o.2.2.1 (λh=>by have:=g8.o.1.lt;have:=g8.o.2.2.2.1;omega),abU.lt⟩
    ·exact⟨λh=>(xc _ h).elim nv.o.2.2.2.1 (λh=>by have:=g8.o.2.1.lt;have:=g8.o.2.2.2.1;omega),Ts.lt⟩
    ·exact⟨λh=>by have:=js.aG.heap.lt h;omega,lA.lt⟩)
   have d11:=aR aom 0;have Mn:=aR Ts 0;have d0:=aR At.aG.aH 0;rw[JN] at Mn d0;have Tt:Ar aj dI=(C++[(n:Int)]).length:=abk At.aG;have aon:kq (am+1) dI ({target:= .collected aF,args:=#[]}::ds):=by
    have Jk:kq (am+1) cG ds:=i9.o.2.2.2.2.2.1.a_ λe9 _ ⟨dS,fy,fm⟩=>g8.o.2.2.2.2.1.block e9 (i9.o.2.2.2.2.2.1.lt dS fy e9 fm);have abV:kq (am+1) W ds:=Jk.a_ λe9 _ ⟨dS,fy,fm⟩=>by
     have h0:=Jk.at dS fy e9 fm;have Tu:e9≠ab:=λe=>by
      subst e;obtain⟨gy,ar,_⟩:=(i9.o.1.below g8.o.2.2.2.2.1).aG.heap;obtain⟨aoo,e4,_⟩:=ar.map;obtain⟨eJ,bL,a5,_⟩:=e4;rw[h0] at a5;cases a5
     exact(xh.2.2.2 e9 _ (by rw[g8.o.2.2.2.1];exact Jk.lt dS fy e9 fm) Tu h0 rfl).trans h0.symm
    have aw:∀dS∈ds,∀e9,dS={target:= .collected e9,args:=#[]}->e9<aF:=λdS fy e9 fm=>jP (Jk.lt dS fy e9 fm) fh;exact⟨⟨aF,rfl,bI g8.o.1.lt,(ck.block aF (gU.1 ly).1).trans ly,aw⟩,abV.a_ λe9 _ ⟨dS,fy,fm⟩=>ck.block e9 (abV.lt dS fy e9 fm)⟩
   have h4:=I JN;have uW:=I Tq;have su:=I (cv abU (cv Ts (cv lA (cv Tt (cv aon (cv At (cv (xh.1.trans (ck.mono Tr)) (cv (cM Tr ck.size) (show am<=qx/\bz≠qx/\ab<dI.heap.size from⟨G,bI js.aG.nf.lt,by have:=ck.size;have:=nv.o.1;have:=g8.o;have:=xh.2.1;omega⟩)))))))));have lY:aM (∀k,wE k->k≠am/\k≠hN/\k≠qx/\k≠aj):=λk h=>⟨λe=>by
    subst e;exact(xc _ h).elim nv.o.2.2.1 (λh=>by have:=g8.o.1.lt;have:=g8.o.2.2.2.1;omega),λe=>by
    subst e;exact(xc _ h).elim nv.o.2.2.2.1 (λh=>by have:=g8.o.2.1.lt;have:=g8.o.2.2.2.1;omega),λe=>by
    have:=js.aG.heap.lt h;omega,λe=>js.aG.apart.1 (e▸h)⟩
   clear Tq JN;gi_wp2_with fail;rw[<-h4.o,<-uW.o];refine pD JO ?_;rintro e ls ⟨rfl,lc,lh,c_,aop⟩;have Ei:=lh.aH su.o.1 (λh=>(lY.o _ h).1 rfl);have Cf:=lh.aH su.o.2.1 (λh=>(lY.o _ h).2.1 rfl);have gk:=lh.aH su.o.2.2.1 (λh=>(lY.o _ h).2.2.1 rfl);have DP:=aR gk 0;have aiY:=gk.free 0 (.inr (cQ _));have IX:ls.heap[aj]? =dI.heap[aj]? :=lh.block aj su.o.2.2.2.2.2.1.aG.aH.lt (λh=>(lY.o _ h).2.2.2 rfl);have N5:kq (am+1) ls ({target:= .collected aF,args:=#[]}::ds):=su.o.2.2.2.2.1.a_ λe9 _ ⟨dS,fy,fm⟩=>by
    have h0:=su.o.2.2.2.2.1.at dS fy e9 fm;have Tu:e9≠ab:=λe=>by
     subst e;obtain⟨gy,ar,_⟩:=su.o.2.2.2.2.2.1.aG.heap;obtain⟨aoo,e4,_⟩:=ar.map;obtain⟨eJ,bL,a5,_⟩:=e4;rw[h0] at a5;cases a5
    exact(aop e9 _ Tu h0 rfl).trans h0.symm
   have cH:=I (show kq (am+1) (ls.setCell (B qx 0) (.int c Ce)) ({target:= .collected aF,args:=#[]}::ds)/\Te am w Q s aj N p ab bz bv bX am hN qx cq v2 Ce (ls.setCell (B qx 0) (.int c Ce))/\(ab<(ls.setCell (B qx 0) (.int c Ce)).heap.size/\am<=(ls.setCell (B qx 0) (.int c Ce)).heap.size)/\Ar aj (ls.setCell (B qx 0) (.int c Ce))=C.length+1 from by
    have Ej:aj≠qx:=λe=>by
     have:=er (e▸su.o.2.2.2.2.2.1.aG.aH) su.o.2.2.1;revert this;decide
    refine⟨N5.a_ λe9 _ ⟨dS,fy,fm⟩=>d7 _ _ _ _ (λe=>?_),⟨anS lc a3 su.o.2.2.2.2.2.2.2.2.2.1 gk _,Ei.gr _ _ (λe=>?_),Cf.gr _ _ (λe=>?_),gk.set 0 _,(su.o.2.2.2.2.2.2.1.trans c_).setCell su.o.2.2.2.2.2.2.2.2.1 _,bY _,DE.2.1,su.o.2.2.2.2.2.2.2.2.1,su.o.2.2.2.2.2.2.2.2.2.1⟩,?_,?_⟩
    ·have h0:=N5.at dS fy e9 fm;rw[show e9=qx from e,show ls.heap[qx]? =_ from gk] at h0;cases h0
    ·have:=er (show V ls qx _ _ _ from(show am=qx from e)▸Ei) gk;revert this;decide
    ·have:=er (show V ls qx _ _ _ from(show hN=qx from e)▸Cf) gk;revert this;decide
    ·have:=lh.size;have:=su.o.2.2.2.2.2.2.2;simp;omega
    ·have h1:(ls.setCell (B qx 0) (.int c Ce)).cell? (B aj 3)=dI.cell? (B aj 3):=mO ((d7 _ _ _ _ Ej).trans IX);have h2:=su.o.2.2.2.1;unfold Ar at h2⊢;rw[h1,h2,gW];rfl)
   gi_wp2_with fail;refine⟨⟨_,_,v2,Ce,cq,qx,rfl,rfl,rfl,rfl,rfl,rfl,rfl,rfl,rfl,rfl,rfl,cH.o.1,cH.o.2.1,cH.o.2.2.1.1,cH.o.2.2.1.2⟩,?_⟩;show N+1-Ar aj _<N+1-Ar aj wr;rw[cH.o.2.2.2,nv.o.2.1];have:=i9.o.1.aG.Eb;rw[gW] at this;simp at this;omega
  case stop=>
   rintro aF R pre W _ _ h _;exact h.elim
end
theorem aov:DV 96 mm:=by
 refine⟨fg func96 bq rfl,λa u=>?_⟩;obtain⟨gG,a1,a2⟩:=a;go_in;go_wp2_with fail;go_ret;exact⟨rfl,fb⟩
theorem aow:DV 94 ns:=by
 refine⟨fg func94 bq rfl,λa u=>?_⟩;obtain⟨gG,a1,a2⟩:=a;go_in;go_wp2_with fail;go_ret;exact⟨rfl,fb⟩
theorem JP {g:Raw} (h:g.arcs.length<=1000000):∀U∈rowsOf aD g.arcs g.nodes.toNat,U.length<=1000000000000:=λU ar=>by
 unfold rowsOf at ar;obtain⟨v,_,rfl⟩:=jB.1 ar;have:=BK aD g.arcs v g.arcs.length;omega
theorem abZ {g:Raw} (h:g.arcs.length<=1000000) {k:Nat} (K:(k:Int)<g.nodes):(lj aD g k).length<=1000000:=by
 rw[Jy aD K];have:=BK aD g.arcs k g.arcs.length;omega
theorem ab0 (L:List bd):(L.map λa=>(ns a,mm a,a.2.2))=L:=by
 have:(λa:bd=>(ns a,mm a,a.2.2))=id:=by funext a;rfl
 rw[this,List.map_id]
theorem aox (L:List bd):(L.map λa=>(mm a,ns a,a.2.2))=L.map kF:=rfl
structure jz (g:Raw) (N:Nat):Prop where
 ok:g.e2
 nodes:(N:Int)=g.nodes
 jo:N<=12
 po:g.arcs.length<=84
theorem Ec.boxed {v:ac} (h:Ec (am+1) D v Q s N) (K:∀k,k≠am->W.heap[k]? =D.heap[k]?):Ec am W v Q s N:=by
 obtain⟨bz,bv,d_,b4,aS,C,e,h1,h2,ap,bl,cL,eI⟩:=h;refine⟨bz,bv,d_,b4,aS,C,e,h1,(K bz G).trans h2,(K bv G).trans ap,?_,G,G⟩;have hb:∀k,d_.ownBlock=A k->am+1<=k:=λk eQ=>(bl.lt k eQ).1;refine fB (Am bl λk eQ=>?_) λk eQ=>K k ?_
 ·have:=hb k eQ;omega
 ·have:=hb k eQ;omega
theorem N' (q:Nat) (g:Raw) (N:Nat) (hf:jz g N) (s:Int) (aB:0<=s/\s<N) (w:O) (h:eq w q g):
 aE aa 50 #[J q 0,r c s] w λe D=>∃v,e=au v/\Ec w.heap.size D v g.arcs s N/\ae w D:=by
 have bK:=hf.ok;obtain⟨ay,bA⟩:=al (w.alloc (an #[E T 0 0,E T 0 0,E T 0 0] 160));have aX:=dx bA;have je:=eK bA rfl;have g4:ay.heap.size=w.heap.size+1:=by rw[bA];simp
 have C:=im.1 (abm 4 G 95 96 q g ns mm aov N hf.nodes hf.jo hf.po (λa ha=>by have:=(bK.aS a ha).2.2;omega) (λa ha=>by rw[hf.nodes];exact(bK.aS a ha).2.1)
  (fg func95 bq rfl) (λu v Z _=>SW q g v u Z (JP (bI hf.po))) (λv aK=>abZ (bI hf.po) (by rw[<-hf.nodes];exact aK)) s aB
  (λv d a9=>by rw[ab0] at a9;exact(a9.bound bK (by rw[<-hf.nodes];exact aB)).2) ay (h.a_ (bu.bg aX)))
 rw[ab0] at C;have cS:=I C;have dN:=I bA;have bP:=ig aX je g4;have g_:=@hJ aa;clear C h bK aB bA aX je g4;go_in;go_wp2_with fail;rw[<-dN.o];refine cS.o.mono ?_;rintro e D ⟨v,rfl,b3,hb⟩;rw[bP.o.2.2] at b3;have JQ:=b3;obtain⟨bz,bv,d_,b4,aS,C,rfl,h1,h2,ap,bl,cL⟩:=b3;obtain⟨cx,dD,c2,rfl⟩:=bl.ic;have eW:=db JQ hb;have R:=bP.o.2.1.aq hb;have bR:=aR R 0;have aV:=aR R 1;have bb:=aR R 2;have gx:=jw R;have j5:=gx 0;have f6:=gx 1;have eF:=gx 2;have tb:=I R;clear h1 h2 ap bl cL hb cS JQ gx R;go_wp2_with fail;have dI:=((tb.o.set 0 (E (A (B bz 0)) N N)).set 1 (E (A (B bv 0)) N N)).set 2 (E cx dD c2);have gc:=dI.cell 0;have f8:=dI.cell 1;have h7:=dI.cell 2;refine gh (v:=aZ #[E (A (B bz 0)) N N,E (A (B bv 0)) N N,E cx dD c2]) (by simp at gc f8 h7;simp[gq,results50,go_sem,gc,f8,h7]) rfl ?_;refine⟨_,rfl,eW.o.1.boxed λk K=>by rw[d7 _ _ _ _ K,d7 _ _ _ _ K,d7 _ _ _ _ K],?_⟩;exact(((bP.o.1.trans (eW.o.2.mono (by rw[bP.o.2.2];omega))).setCell (p:=B w.heap.size 0) (bY _) _).setCell (p:=B w.heap.size 1) (bY _) _).setCell (p:=B w.heap.size 2) (bY _) _
theorem Ty (q:Nat) (g:Raw) (N:Nat) (hf:jz g N) (s:Int) (aB:0<=s/\s<N) (w:O) (h:eq w q g):
 aE aa 49 #[J q 0,r c s] w λe D=>∃v,e=au v/\Ec w.heap.size D v (g.arcs.map kF) s N/\ae w D:=by
 have bK:=hf.ok;obtain⟨ay,bA⟩:=al (w.alloc (an #[E T 0 0,E T 0 0,E T 0 0] 160));have aX:=dx bA;have je:=eK bA rfl;have g4:ay.heap.size=w.heap.size+1:=by rw[bA];simp
 have C:=im.1 (abm 4 G 93 94 q g mm ns aow N hf.nodes hf.jo hf.po (λa ha=>by have:=(bK.aS a ha).2.2;omega) (λa ha=>by rw[hf.nodes];exact(bK.aS a ha).1)
  (fg func93 bq rfl) (λu v Z _=>SX q g v u Z (JP (bI hf.po))) (λv aK=>abZ (bI hf.po) (by rw[<-hf.nodes];exact aK)) s aB
  (λv d a9=>(f_.bound (g:=g.flip) (N_ bK) (by show 0<=s/\s<g.nodes;rw[<-hf.nodes];exact aB) a9).2) ay (h.a_ (bu.bg aX)))
 rw[aox] at C;have cS:=I C;have dN:=I bA;have bP:=ig aX je g4;have g_:=@hJ aa;clear C h bK aB bA aX je g4;go_in;go_wp2_with fail;rw[<-dN.o];refine cS.o.mono ?_;rintro e D ⟨v,rfl,b3,hb⟩;rw[bP.o.2.2] at b3;have JQ:=b3;obtain⟨bz,bv,d_,b4,aS,C,rfl,h1,h2,ap,bl,cL⟩:=b3;obtain⟨cx,dD,c2,rfl⟩:=bl.ic;have eW:=db JQ hb;have R:=bP.o.2.1.aq hb;have bR:=aR R 0;have aV:=aR R 1;have bb:=aR R 2;have gx:=jw R;have j5:=gx 0;have f6:=gx 1;have eF:=gx 2;have tb:=I R;clear h1 h2 ap bl cL hb cS JQ gx R;go_wp2_with fail;have dI:=((tb.o.set 0 (E (A (B bz 0)) N N)).set 1 (E (A (B bv 0)) N N)).set 2 (E cx dD c2);have gc:=dI.cell 0;have f8:=dI.cell 1;have h7:=dI.cell 2;refine gh (v:=aZ #[E (A (B bz 0)) N N,E (A (B bv 0)) N N,E cx dD c2]) (by simp at gc f8 h7;simp[gq,results49,go_sem,gc,f8,h7]) rfl ?_;refine⟨_,rfl,eW.o.1.boxed λk K=>by rw[d7 _ _ _ _ K,d7 _ _ _ _ K,d7 _ _ _ _ K],?_⟩;exact(((bP.o.1.trans (eW.o.2.mono (by rw[bP.o.2.2];omega))).setCell (p:=B w.heap.size 0) (bY _) _).setCell (p:=B w.heap.size 1) (bY _) _).setCell (p:=B w.heap.size 2) (bY _) _
def Ch (am ag x:Int):Int:=min (max x am) ag
theorem aoy {am ag:Int} (h:am<=ag) (x:Int):am<=Ch am ag x/\Ch am ag x<=ag:=by unfold Ch;omega
theorem ab1 (am ag x:Int) (cO cq:Nat) (w:O) (h1:w.cell? (B cO 0)=A (r c am)) (h2:w.cell? (B cq 0)=A (r c ag)):aE aa 312 #[r c x,J cO 0,J cq 0] w λe D=>e=au (r c (Ch am ag x))/\D=w:=by
 obtain⟨y,az⟩:=al (max x am);obtain⟨z,b5⟩:=al (min y ag);have e:Ch am ag x=z:=by rw[b5,az];rfl
 rw[e];have lv:(if x<am then am else x)=y:=by rw[az];split<;>omega
 have ry:(if ag<y then ag else y)=z:=by rw[b5];split<;>omega
 clear az b5;go_in;go_wp2_with fail;go_ret;exact⟨rfl,rfl⟩
theorem ab2 (am ag:Int) (w:O):aE aa 294 #[r c am,r c ag] w λe D=>e=au (.func (.func 312) #[] #[J w.heap.size 0,J (w.heap.size+1) 0])/\D=(w.alloc (an #[r c am] 2)).alloc (an #[r c ag] 2):=by
 have g_:=@hJ aa;go_in;go_wp2_with fail;go_ret;exact⟨rfl,rfl⟩
theorem ab3 (am ag:Int) (w:O):V ((w.alloc (an #[r c am] 2)).alloc (an #[r c ag] 2)) w.heap.size #[r c am] 2 (0,0)/\V ((w.alloc (an #[r c am] 2)).alloc (an #[r c ag] 2)) (w.heap.size+1) #[r c ag] 2 (0,0)/\ae w ((w.alloc (an #[r c am] 2)).alloc (an #[r c ag] 2)):=by
 refine⟨(V.new _ _ _ _).alloc _,?_,(fb).alloc a3 _⟩;have k:=V.new (w.alloc (an #[r c am] 2)) #[r c ag] 2 (0,0);rw[d8] at k;exact k
theorem Em (a:Int) (w:O):aE aa 285 #[r c a] w λe D=>e=au (r c (iw a))/\ae w D:=by
 obtain⟨aJ,cK⟩:=al ((w.alloc (an #[r c 0] 2)).alloc (an #[r c 72057594037927936] 2));obtain⟨k1,k2,hb⟩:=ab3 0 72057594037927936 w;rw[<-cK] at k1 k2 hb;have aV:=k1.cell 0;have bb:=k2.cell 0;have gX:=I (ab2 0 72057594037927936 w);have fC:=I (ab1 0 72057594037927936 a _ _ aJ aV bb);have dN:=I cK;have bP:=I hb;clear cK;go_in;go_wp2_with fail;refine dl gX.o λeM h=>?_;rw[<-dN.o] at h;subst eM;go_wp2_with fail;refine eO fC.o ?_;go_wp2_with fail;go_ret;exact⟨rfl,bP.o⟩
theorem JR (a:Int) (w:O):aE aa 284 #[r c a] w λe D=>e=au (aA (decide (iw a<72057594037927936)))/\ae w D:=by
 have gX:=I (Em a w);go_in;go_wp2_with fail;refine dl gX.o λeM h=>?_;have bP:=I h;go_wp2_with fail;go_ret;exact⟨rfl,bP.o⟩
theorem ab4 (x:Int):iw (iw x)=iw x:=by unfold iw;omega
theorem Tz (v t:Int) (w:O):aE aa 279 #[r c v,r c t] w λe D=>e=au (r c (o0 v t))/\ae w D:=by
 have aK:=El v;have ht:=El t;unfold o0;obtain⟨uh,nU⟩:=al (iw v);obtain⟨yX,Au⟩:=al (iw t);have kM:iw uh=uh:=by rw[nU];exact ab4 v
 have YT:iw yX=yX:=by rw[Au];exact ab4 t
 have kx:=I λu=>Em v u;have eW:=I λu=>Em t u;rw[<-nU] at aK kx⊢;rw[<-Au] at ht eW⊢;obtain⟨jp,Av⟩:=al (uh-yX);have bA:IntKind.i64.wrap (uh-yX)=jp:=by rw[Av];exact o7 _ G
 rw[<-Av];have JS:=I λu=>JR uh u;have vv:=I λu=>JR yX u;have jd:=I λu=>Em jp u;rw[kM] at JS;rw[YT] at vv;clear nU Au Av;by_cases q1:yX<72057594037927936
 ·rw[decide_eq_true q1] at vv;rw[if_pos q1];by_cases q2:uh<72057594037927936
  ·rw[decide_eq_true q2] at JS;rw[if_pos q2];go_in;go_wp2_with fail;refine dl (kx.o w) λay h1=>?_;have ft:=I h1;go_wp2_with fail;refine dl (eW.o ay) λaJ h2=>?_;have dT:=I (ft.o.next' h2);go_wp2_with fail;refine dl (vv.o aJ) λba ap=>?_;have dh:=I (dT.o.next' ap);go_wp2_with fail;refine dl (JS.o ba) λbi bl=>?_;have g6:=I (dh.o.next' bl);go_wp2_with fail;refine dl (jd.o bi) λbD cL=>?_;have hd:=I (g6.o.next' cL);go_wp2_with fail;go_ret;exact⟨rfl,hd.o⟩
  ·rw[decide_eq_false q2] at JS;rw[if_neg q2];go_in;go_wp2_with fail;refine dl (kx.o w) λay h1=>?_;have ft:=I h1;go_wp2_with fail;refine dl (eW.o ay) λaJ h2=>?_;have dT:=I (ft.o.next' h2);go_wp2_with fail;refine dl (vv.o aJ) λba ap=>?_;have dh:=I (dT.o.next' ap);go_wp2_with fail;refine dl (JS.o ba) λbi bl=>?_;have g6:=I (dh.o.next' bl);go_wp2_with fail;go_ret;exact⟨rfl,g6.o⟩
 ·rw[decide_eq_false q1] at vv;rw[if_neg q1];go_in;go_wp2_with fail;refine dl (kx.o w) λay h1=>?_;have ft:=I h1;go_wp2_with fail;refine dl (eW.o ay) λaJ h2=>?_;have dT:=I (ft.o.next' h2);go_wp2_with fail;refine dl (vv.o aJ) λba ap=>?_;have dh:=I (dT.o.next' ap);go_wp2_with fail;go_ret;exact⟨rfl,dh.o⟩
theorem ab5 (v t:Int) (w:O):aE aa 281 #[r c v,r c t] w λe D=>e=au (r c (o0 t v))/\ae w D:=by
 have gX:=I (Tz t v w);go_in;go_wp2_with fail;refine dl gX.o λeM h=>?_;have bP:=I h;go_wp2_with fail;go_ret;exact⟨rfl,bP.o⟩
theorem aoz (t s:Int) (w:O):aE aa 241 #[r c t,r c s] w λe D=>e=au (r c (if iw t<72057594037927936/\iw s<72057594037927936 then iw t-iw s else 72057594037927936))/\ae w D:=by
 have aK:=El s;have ht:=El t;have BG:=I λu=>Em t u;have Aw:=I λu=>Em s u;have vv:=I λu=>JR t u;have JT:=I λu=>JR s u;obtain⟨uh,nU⟩:=al (iw s);obtain⟨yX,Au⟩:=al (iw t);rw[<-nU] at aK Aw JT⊢;rw[<-Au] at ht BG vv⊢;obtain⟨jp,Av⟩:=al (yX-uh);have bA:IntKind.i64.wrap (yX-uh)=jp:=by rw[Av];exact o7 _ G
 rw[<-Av];clear nU Au Av;by_cases q1:yX<72057594037927936
 ·rw[decide_eq_true q1] at vv;by_cases q2:uh<72057594037927936
  ·rw[decide_eq_true q2] at JT;rw[if_pos ⟨q1,q2⟩];go_in;go_wp2_with fail;refine dl (vv.o w) λay h1=>?_;go_wp2_with fail;refine dl (JT.o ay) λaJ h2=>?_;have bP:=I (h1.next' h2);go_wp2_with fail;refine dl (BG.o aJ) λba ap=>?_;go_wp2_with fail;refine dl (Aw.o ba) λbi bl=>?_;have g6:=I ((bP.o.next' ap).next' bl);go_wp2_with fail;go_ret;exact⟨rfl,g6.o⟩
  ·rw[decide_eq_false q2] at JT;rw[if_neg (λh=>q2 h.2)];go_in;go_wp2_with fail;refine dl (vv.o w) λay h1=>?_;go_wp2_with fail;refine dl (JT.o ay) λaJ h2=>?_;have bP:=I (h1.next' h2);go_wp2_with fail;go_ret;exact⟨rfl,bP.o⟩
 ·rw[decide_eq_false q1] at vv;rw[if_neg (λh=>q1 h.1)];go_in;go_wp2_with fail;refine dl (vv.o w) λay h1=>?_;have bP:=I h1;go_wp2_with fail;go_ret;exact⟨rfl,bP.o⟩
def ra (f:Int->Int) (l:List Int):Int:=l.foldl (λs x=>f (s+f x)) 0
theorem ab6 {f:Int->Int} {k:Nat} (h:k<l.length):ra f (l.take (k+1))=f (ra f (l.take k)+f l[k]):=by
 unfold ra;rw[XO,eA h,L6];rfl
theorem ab7 (xP:Nat) (eN:Array ac) (f:Int->Int) (aDr:∀args w,(gM xP args).run aa w= .ok (.enter xP args) w) (hf:∀x,0<=f x/\f x<=2305843009213693952) (cJ:O) (cb:∀u,ae cJ u->∀x,aE aa xP (#[r c x]++eN) u λe D=>e=au (r c (f x))/\ae u D)
 (v:ac) (l:List Int) (aw:cR cJ v l) (hlen:l.length<=1000):
 aE aa 293 #[.func (.func xP) #[] eN,v] cJ λe D=>e=au (r c (ra f l))/\ae cJ D:=by
 obtain⟨a,cap,rfl,h1,h2,ap⟩:=id aw;have cj:=I cb;have fG:=I aw;have dq:=I hf;have ar:∀k,k<=l.length->0<=ra f (l.take k)/\ra f (l.take k)<=2305843009213693952:=λk K=>by
  cases k with
  |zero=>unfold ra;simp
  |succ k=>rw[ab6 G];exact hf _
 have cW:=I ar;go_in;go_wp2_with fail;go_loopw [4,9] (λs i wr=>∃k:Nat,k<=l.length/\s=r c (ra f (l.take k))/\i=r c k/\aM (ae cJ wr)) (λ_ i _=>l.length-(cu i).toNat)
 ·exact⟨0,cQ _,rfl,rfl,I (bx _ _)⟩
 ·obtain⟨k,K,rfl,rfl,bP⟩:=hrel;by_cases a0:k<l.length
  ·have ie:(k:Int)<l.length:=G;have jl:=ew k;obtain⟨b,off,rfl,d0⟩:=(fG.o.a_ (bu.bg bP.o)).at k a0;obtain⟨x,ak⟩:=al (l[k]);rw[<-ak] at d0;obtain⟨JU,Ci⟩:=al (ra f (l.take k));have Jc:=cW.o k K;rw[<-Ci] at Jc⊢;have gX:=I (cj.o wr bP.o x);have Cj:=dq.o x;obtain⟨mH,TA⟩:=al (f x);rw[<-TA] at gX Cj;obtain⟨fX,hK⟩:=al (JU+mH);have bA:IntKind.i64.wrap (JU+mH)=fX:=by rw[hK];exact o7 _ G
   have c9:=I (show ra f (l.take (k+1))=f fX by rw[ab6 a0,hK,Ci,TA,ak]);clear ak Ci TA hK;go_wp2_with fail;refine dl gX.o λay aX=>?_;have ft:=I (bP.o.next' aX);have fC:=I (cj.o ay ft.o fX);go_wp2_with fail;refine dl fC.o λaJ a5=>?_;have dT:=I (ft.o.next' a5);go_wp2_with fail;go_roundw
   ·exact⟨k+1,a0,by rw[c9.o],by go_num,dT⟩
   ·simp[cu];omega
  ·obtain rfl:k=l.length:=G;rw[v3];go_wp2_with fail;go_ret;exact⟨rfl,bP.o⟩
theorem ab8 {b:Nat} {t:cY} (h:V w b #[r c x,r c y] t fr):cR w (E (A (B b 0)) 2 2) [x,y]:=
 ⟨_,2,rfl,bY _,by unfold maxLen;omega,λi ag=>⟨b,0,_,t,fr,rfl,h,by
  match i,ag with
  |0,_=>rfl
  |1,_=>rfl⟩⟩
theorem aoA (a b:Int) (w:O):aE aa 303 #[r c a,r c b] w λe D=>e=au (r c (ra iw [a,b]))/\ae w D:=by
 obtain⟨ay,bA⟩:=al (w.alloc (an #[r c a,r c b] 2));have aX:=dx bA;have k1:=eK bA rfl;have gX:=I (ab7 285 #[] iw (fg func285 bq rfl) (λx=>by have:=El x;omega) ay (λu _ x=>Em x u) _ [a,b] (ab8 k1) a3);have dN:=I bA;have bP:=I aX;clear bA;go_in;go_wp2_with fail;rw[<-dN.o];refine dl gX.o λaJ h2=>?_;have dT:=I (bP.o.next' h2);go_wp2_with fail;go_ret;exact⟨rfl,dT.o⟩
theorem aoB (a b:Int) (w:O):aE aa 257 #[r c a,r c b] w λe D=>e=au (r c (ra (Ch 0 2305843009213693952) [a,b]))/\ae w D:=by
 obtain⟨aJ,cK⟩:=al ((w.alloc (an #[r c 0] 2)).alloc (an #[r c 2305843009213693952] 2));obtain⟨k1,k2,hb⟩:=ab3 0 2305843009213693952 w;rw[<-cK] at k1 k2 hb;obtain⟨ba,cg⟩:=al (aJ.alloc (an #[r c a,r c b] 2));have ck:=dx cg;have k3:=eK cg rfl;have n4:=k1.aq ck;have rn:=k2.aq ck;have hM:=I (ab2 0 2305843009213693952 w);have gX:=I (ab7 312 #[J w.heap.size 0,J (w.heap.size+1) 0] (Ch 0 2305843009213693952) (fg func312 bq rfl) (λx=>aoy G x) ba
  (λu Z x=>(ab1 0 2305843009213693952 x _ _ u ((n4.aq Z).cell 0) ((rn.aq Z).cell 0)).mono (by rintro e eM ⟨rfl,h⟩;subst eM;exact⟨rfl,bx _ _⟩)) _ [a,b] (ab8 k3) a3)
 have dN:=I cK;have bP:=I (hb.next' ck);have h4:=I cg;clear cK cg;go_in;go_wp2_with fail;refine dl hM.o λeM h=>?_;rw[<-dN.o] at h;subst eM;go_wp2_with fail;rw[<-h4.o];refine dl gX.o λbi bl=>?_;have g6:=I (bP.o.next' bl);go_wp2_with fail;go_ret;exact⟨rfl,g6.o⟩
noncomputable def Ax (g:Raw) (N:Nat) (m:Int):List Int:=(m8 N).map λ(v:Nat)=>c1 g.arcs v m
noncomputable def Ay (g:Raw) (N:Nat) (m:Int):List Int:=(m8 N).map λ(v:Nat)=>c1 g.arcs m v
theorem ab9 {g:Raw} {m:Int} {v:Nat} (aK:v<N):(Ax g N m)[v]? =A (c1 g.arcs v m):=by
 unfold Ax;rw[w',Ik aK];rfl
theorem ab_ {g:Raw} {m:Int} {v:Nat} (aK:v<N):(Ay g N m)[v]? =A (c1 g.arcs m v):=by
 unfold Ay;rw[w',Ik aK];rfl
structure jq (w:O) (bE:Nat) (g:Raw) (N:Nat) (m:List Int):Prop where
 aH:∃vw jX td fr,V w bE #[r c N,vw,jX,td] 119 fr/\cR w vw m/\ru w jX (m.map (Ax g N))/\ru w td (m.map (Ay g N))
 len:m.length<=16
 G8:∀x∈m,0<=x/\x<g.nodes
 nodes:(N:Int)=g.nodes
 jo:N<=12
theorem jq.a_ {g:Raw} (h:jq w bE g N m) (K:bu w D):jq D bE g N m:=by
 obtain⟨vw,jX,td,fr,h1,h2,ap,bl⟩:=h.aH;exact⟨⟨vw,jX,td,fr,K.aH h1,h2.a_ K,ap.a_ K,bl.a_ K⟩,h.len,h.G8,h.nodes,h.jo⟩
theorem En {g:Raw} (h:jq w bE g N m):aE aa 68 #[J bE 0] w λe D=>e=au (r c N)/\D=w:=by
 obtain⟨vw,jX,td,fr,h1,h2,ap,bl⟩:=h.aH;have bR:=aR h1 0;go_in;go_wp2_with fail;go_ret;exact⟨rfl,rfl⟩
theorem Eo {g:Raw} (h:jq w bE g N m):aE aa 69 #[J bE 0] w λe D=>∃a R,e=au (E a m.length R)/\D.ownsRow w.heap.size 3 1 (E a m.length R) m.length (m.flatMap ec)/\ae w D:=by
 obtain⟨vw,jX,td,fr,h1,h2,ap,bl⟩:=h.aH;obtain⟨a,R,rfl,_⟩:=id h2;have aV:=aR h1 1;have cS:=I (D' _ m w h2 (bI h.len));go_in;go_wp2_with fail;refine cS.o.mono ?_;rintro e ay ⟨ca,rfl,ar,hb⟩;obtain⟨fM,rm,aK,_⟩:=jv rfl ar;subst aK;have cW:=db ar hb;go_wp2_with fail;go_ret;exact⟨_,_,rfl,cW.o.1,cW.o.2⟩
theorem aoC (h:V w bE cs 119 fr) {v:ac} (aK:cs[2]? =A v):aE aa 308 #[J bE 0] w λe D=>e=au v/\D=w:=by
 have bb:w.cell? (B bE 2)=A v:=by rw[h.cell];exact aK
 go_in;go_wp2_with fail;go_ret;exact⟨rfl,rfl⟩
theorem aoD (h:V w bE cs 119 fr) {v:ac} (aK:cs[3]? =A v):aE aa 309 #[J bE 0] w λe D=>e=au v/\D=w:=by
 have bb:w.cell? (B bE 3)=A v:=by rw[h.cell];exact aK
 go_in;go_wp2_with fail;go_ret;exact⟨rfl,rfl⟩
theorem ab' {g:Raw} (h:jq w bE g N m) (f:Nat) (jm:∀args w,(gM f args).run aa w= .ok (.enter f args) w) {u2:ac} {aj:List (List Int)} (cf:ru w u2 aj) (xA:aj.length=m.length) (aoE:aE aa f #[J bE 0] w λe D=>e=au u2/\D=w)
 {v:Nat} (ag:i<m.length) (aK:v<N) {row:List Int} (es:aj[i]? =A row) (NU:row.length=N) (az:row[v]? =A y):
 aE aa 307 #[J bE 0,.func (.func f) #[J bE 0] #[],r c i,r c v] w λe D=>e=au (r c y)/\D=w:=by
 obtain⟨vw,jX,td,fr,h1,h2,ap,bl⟩:=h.aH;obtain⟨aDs,TB,rfl,_⟩:=id h2;have bR:=aR h1 0;have aV:=aR h1 1;obtain⟨ot,hs,rfl,ml,iq,TC⟩:=id cf;have wh:i<aj.length:=G;obtain⟨b,off,cs,u7,ZB,kP,rfl,hb,ah,ak⟩:=TC i wh;have aoF:aj[i]=row:=by rw[eA wh] at es;exact eT es
 rw[aoF] at ak;have gl:w.cell? (B b (off+i))=A kP:=by rw[hb.cell];exact ah
 obtain⟨cP,cC,rfl,j8,DK,aDt⟩:=id ak;have aca:v<row.length:=G;obtain⟨cq,aDu,rfl,d2⟩:=ak.at v aca;have aoG:row[v]=y:=by rw[eA aca] at az;exact eT az
 rw[aoG] at d2;rw[NU] at gl;have cS:=I aoE;obtain⟨M,dU⟩:=al m.length;obtain⟨bT,hU⟩:=al aj.length;rw[<-hU] at cS wh;rw[<-dU] at aV ag;have yP:(i:Int)<M:=G;have ve:=ew i;have wH:(v:Int)<N:=G;have q9:=ew v;have aDv:(i:Int)<bT:=G;clear dU hU;go_in;go_wp2_with fail;refine eO cS.o ?_;go_wp2_with fail;go_ret;exact⟨rfl,rfl⟩
theorem acb {g:Raw} (h:jq w bE g N m) {v:Nat} (ag:i<m.length) (aK:v<N):aE aa 278 #[J bE 0,r c i,r c v] w λe D=>e=au (r c (c1 g.arcs v m[i]))/\D=w:=by
 obtain⟨vw,jX,td,fr,h1,h2,ap,bl⟩:=h.aH;have dM:=I (ab' h 308 (fg func308 bq rfl) ap a3 (aoC h1 rfl) ag aK (row:=Ax g N m[i]) (by rw[w',eA ag];rfl) (by unfold Ax;simp) (ab9 aK));have g_:=@hJ aa;go_in;go_wp2_with fail;refine eO dM.o ?_;go_wp2_with fail;go_ret;exact⟨rfl,rfl⟩
theorem acc {g:Raw} (h:jq w bE g N m) {v:Nat} (ag:i<m.length) (aK:v<N):aE aa 280 #[J bE 0,r c i,r c v] w λe D=>e=au (r c (c1 g.arcs m[i] v))/\D=w:=by
 obtain⟨vw,jX,td,fr,h1,h2,ap,bl⟩:=h.aH;have dM:=I (ab' h 309 (fg func309 bq rfl) bl a3 (aoD h1 rfl) ag aK (row:=Ay g N m[i]) (by rw[w',eA ag];rfl) (by unfold Ay;simp) (ab_ aK));have g_:=@hJ aa;go_in;go_wp2_with fail;refine eO dM.o ?_;go_wp2_with fail;go_ret;exact⟨rfl,rfl⟩
section
attribute [local go_sem] f'
def yZ (jp:Nat):Prop:=∀(x y:Int) (w:O),aE aa jp #[r c x,r c y] w λe D=>(∃U:Int,e=au (r c U))/\D=w
theorem aoO:yZ 295:=by
 intro x y w;go_in;go_wp2_with fail;go_ret;exact⟨⟨_,rfl⟩,rfl⟩
theorem aoP:yZ 296:=by
 intro x y w;go_in;go_wp2_with fail;go_ret;exact⟨⟨_,rfl⟩,rfl⟩
theorem aoQ:yZ 297:=by
 intro x y w;go_in;go_wp2_with fail;go_ret;exact⟨⟨_,rfl⟩,rfl⟩
theorem aoR:yZ 298:=by
 intro x y w;go_in;go_wp2_with fail;go_ret;exact⟨⟨_,rfl⟩,rfl⟩
theorem JX (w:O):aE aa 261 #[] w λe D=>e=au (aZ #[.func (.func 295) #[] #[],.func (.func 296) #[] #[],.func (.func 297) #[] #[],.func (.func 298) #[] #[]])/\ae w D:=by
 go_in;go_wp2_with fail;refine gh (v:=(aZ #[.func (.func 295) #[] #[],.func (.func 296) #[] #[],.func (.func 297) #[] #[],.func (.func 298) #[] #[]])) (by simp[gq,results261,go_sem]) rfl ?_;exact⟨rfl,(fb)⟩
theorem aoS (a b R d:ac) (u:O):(uO 367 (aZ #[a,b,R,d]) (r c 0)).run aa u= .ok a u:=bq
theorem aoT (a b R d:ac) (u:O):(uO 367 (aZ #[a,b,R,d]) (r c 1)).run aa u= .ok b u:=bq
theorem aoU (a b R d:ac) (u:O):(uO 367 (aZ #[a,b,R,d]) (r c 2)).run aa u= .ok R u:=bq
theorem aoV (a b R d:ac) (u:O):(uO 367 (aZ #[a,b,R,d]) (r c 3)).run aa u= .ok d u:=bq
structure G_ (u:O) (P af dH cc:Nat) (g:Raw):Prop where
 kS:eq u af g
 par:∃v x,V u P #[J af 0,v,x] 180
 sW:V u dH #[J P 0] 178
 cO:∃jp,V u cc #[.func (.func jp) #[] #[]] 334 (0,0)/\yZ jp/\∀args w,(gM jp args).run aa w= .ok (.enter jp args) w
theorem G_.later {u ed:O} {P af dH cc:Nat} {g:Raw} (h:G_ u P af dH cc g) (hb:ae u ed):G_ ed P af dH cc g:=by
 obtain⟨v,x,aP⟩:=h.par;obtain⟨jp,h1,h2,ap⟩:=h.cO;exact⟨h.kS.a_ (bu.bg hb),⟨v,x,aP.aq hb⟩,h.sW.aq hb,jp,h1.aq hb,h2,ap⟩
theorem acl {u:O} {P af dH cc:Nat} {g:Raw} (h:G_ u P af dH cc g) (v:Int):aE aa 263 #[r c v,J dH 0,J cc 0] u λe D=>(∃U:Int,e=au (r c U))/\D=u:=by
 obtain⟨ms,wJ,aP⟩:=h.par;obtain⟨jp,h1,h2,ap⟩:=h.cO;have e_:=I (ack af g v u h.kS);have jd:=I (λx y=>h2 x y u);have bR:u.cell? (B dH 0)=A (J P 0):=h.sW.cell 0;have aV:u.cell? (B cc 0)=A (.func (.func jp) #[] #[]):=h1.cell 0;have bb:u.cell? (B P 0)=A (J af 0):=aP.cell 0;clear h h1 h2 aP;go_in;go_wp2_with fail;refine e_.o.mono ?_;rintro e aJ ⟨rfl,rfl⟩;go_wp2_with fail;refine(jd.o _ _).mono ?_;rintro e ba ⟨⟨U,rfl⟩,rfl⟩;go_wp2_with fail;go_ret;exact⟨⟨_,rfl⟩,rfl⟩
theorem aoW (P:Nat) (w:O):aE aa 191 #[J P 0,r c 0] w λe D=>∃dH cc,e=au (.func (.func 263) #[] #[J dH 0,J cc 0])/\
 V D dH #[J P 0] 178 (0,0)/\(∃jp,V D cc #[.func (.func jp) #[] #[]] 334 (0,0)/\yZ jp/\∀args w,(gM jp args).run aa w= .ok (.enter jp args) w)/\ae w D:=by
 have g_:=@hJ aa;have nY:=λa b R d u=>aoS a b R d u;obtain⟨ay,bA⟩:=al (w.alloc (an #[J P 0] 178));have jd:=I (JX ay);have cX:=I bA;clear bA;go_in;go_wp2_with fail;rw[<-cX.o];refine dl jd.o λaJ hb=>?_;have bP:=I hb;clear hb jd;go_wp2_with fail;go_ret;have aX:ae w ay:=by rw[cX.o];exact fb
 have k0:V ay w.heap.size #[J P 0] 178:=by rw[cX.o];exact V.new _ _ _ _
 have k1:=V.new aJ #[.func (.func 295) #[] #[]] 334 (0,0);have Er:=k0.aq bP.o;exact⟨_,_,rfl,Er.alloc _,⟨_,k1,aoO,fg func295 bq rfl⟩,(aX.next' bP.o).alloc (cM aX.size bP.o.size) _⟩
theorem aoX (P:Nat) (w:O):aE aa 191 #[J P 0,r c 1] w λe D=>∃dH cc,e=au (.func (.func 263) #[] #[J dH 0,J cc 0])/\
 V D dH #[J P 0] 178 (0,0)/\(∃jp,V D cc #[.func (.func jp) #[] #[]] 334 (0,0)/\yZ jp/\∀args w,(gM jp args).run aa w= .ok (.enter jp args) w)/\ae w D:=by
 have g_:=@hJ aa;have nY:=λa b R d u=>aoT a b R d u;obtain⟨ay,bA⟩:=al (w.alloc (an #[J P 0] 178));have jd:=I (JX ay);have cX:=I bA;clear bA;go_in;go_wp2_with fail;rw[<-cX.o];refine dl jd.o λaJ hb=>?_;have bP:=I hb;clear hb jd;go_wp2_with fail;go_ret;have aX:ae w ay:=by rw[cX.o];exact fb
 have k0:V ay w.heap.size #[J P 0] 178:=by rw[cX.o];exact V.new _ _ _ _
 have k1:=V.new aJ #[.func (.func 296) #[] #[]] 334 (0,0);have Er:=k0.aq bP.o;exact⟨_,_,rfl,Er.alloc _,⟨_,k1,aoP,fg func296 bq rfl⟩,(aX.next' bP.o).alloc (cM aX.size bP.o.size) _⟩
theorem aoY (P:Nat) (w:O):aE aa 191 #[J P 0,r c 2] w λe D=>∃dH cc,e=au (.func (.func 263) #[] #[J dH 0,J cc 0])/\
 V D dH #[J P 0] 178 (0,0)/\(∃jp,V D cc #[.func (.func jp) #[] #[]] 334 (0,0)/\yZ jp/\∀args w,(gM jp args).run aa w= .ok (.enter jp args) w)/\ae w D:=by
 have g_:=@hJ aa;have nY:=λa b R d u=>aoU a b R d u;obtain⟨ay,bA⟩:=al (w.alloc (an #[J P 0] 178));have jd:=I (JX ay);have cX:=I bA;clear bA;go_in;go_wp2_with fail;rw[<-cX.o];refine dl jd.o λaJ hb=>?_;have bP:=I hb;clear hb jd;go_wp2_with fail;go_ret;have aX:ae w ay:=by rw[cX.o];exact fb
 have k0:V ay w.heap.size #[J P 0] 178:=by rw[cX.o];exact V.new _ _ _ _
 have k1:=V.new aJ #[.func (.func 297) #[] #[]] 334 (0,0);have Er:=k0.aq bP.o;exact⟨_,_,rfl,Er.alloc _,⟨_,k1,aoQ,fg func297 bq rfl⟩,(aX.next' bP.o).alloc (cM aX.size bP.o.size) _⟩
theorem aoZ (P:Nat) (w:O):aE aa 191 #[J P 0,r c 3] w λe D=>∃dH cc,e=au (.func (.func 263) #[] #[J dH 0,J cc 0])/\
 V D dH #[J P 0] 178 (0,0)/\(∃jp,V D cc #[.func (.func jp) #[] #[]] 334 (0,0)/\yZ jp/\∀args w,(gM jp args).run aa w= .ok (.enter jp args) w)/\ae w D:=by
 have g_:=@hJ aa;have nY:=λa b R d u=>aoV a b R d u;obtain⟨ay,bA⟩:=al (w.alloc (an #[J P 0] 178));have jd:=I (JX ay);have cX:=I bA;clear bA;go_in;go_wp2_with fail;rw[<-cX.o];refine dl jd.o λaJ hb=>?_;have bP:=I hb;clear hb jd;go_wp2_with fail;go_ret;have aX:ae w ay:=by rw[cX.o];exact fb
 have k0:V ay w.heap.size #[J P 0] 178:=by rw[cX.o];exact V.new _ _ _ _
 have k1:=V.new aJ #[.func (.func 298) #[] #[]] 334 (0,0);have Er:=k0.aq bP.o;exact⟨_,_,rfl,Er.alloc _,⟨_,k1,aoR,fg func298 bq rfl⟩,(aX.next' bP.o).alloc (cM aX.size bP.o.size) _⟩
theorem acm (P d:Nat) (a9:d<4) (w:O):aE aa 191 #[J P 0,r c d] w λe D=>∃dH cc,e=au (.func (.func 263) #[] #[J dH 0,J cc 0])/\
 V D dH #[J P 0] 178 (0,0)/\(∃jp,V D cc #[.func (.func jp) #[] #[]] 334 (0,0)/\yZ jp/\∀args w,(gM jp args).run aa w= .ok (.enter jp args) w)/\ae w D:=by
 match d,a9 with
 |0,_=>exact aoW P w
 |1,_=>exact aoX P w
 |2,_=>exact aoY P w
 |3,_=>exact aoZ P w
end
end Go.Proofs.YtnmliebconiefaaGreatDoor
