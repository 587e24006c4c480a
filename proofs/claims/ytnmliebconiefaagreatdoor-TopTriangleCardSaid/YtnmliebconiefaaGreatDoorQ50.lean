/- Texts of TopTriangle's and TopMoved's walks, made small by a printer; no conditions. -/
import Derived.Test.YtnmliebconiefaaGreatDoorQ10
open And renaming intro→cv
open Go.IntKind renaming i64→c,u8→dA
open Go.Obj renaming cells→an
open Go.Proofs.Tryz renaming prog→aa
open Go.Value renaming agg→aZ,bool→aA,int→r,slice→E
open Option renaming some→A
namespace Go.Proofs.YtnmliebconiefaaGreatDoor
open Go.RowKit Go.Shelf Go.Proofs.Tryz
set_option linter.all false
set_option maxRecDepth 100000
set_option maxHeartbeats 32000000
theorem azk {g:Raw} (bK:g.e2) {s v t:Int} (aB:0<=s/\s<g.nodes) (aK:0<=v/\v<g.nodes):((pn g.arcs s t).1=0\/(pn g.arcs s t).1=20)/\
 ((pn g.arcs s v).1=0->(pn g.arcs v t).1=0->(pn g.arcs s t).1=0/\(pn g.arcs s t).2<=(pn g.arcs s v).2+(pn g.arcs v t).2):=by
 unfold pn;refine⟨by split<;>simp,λh1 h2=>?_⟩;rcases vu bK (t:=v) aB with⟨d,k1,k2,k3,k4⟩|⟨_,k2⟩
 ·rcases vu bK (t:=t) aK with⟨e,e4,g7,lI,aab⟩|⟨_,g7⟩
  ·rcases vu bK (t:=t) aB with⟨f,q1,q2,bm,cZ⟩|⟨q1,q2⟩
   ·rw[k2,g7,q2,if_pos cZ,if_pos k4,if_pos aab];exact⟨rfl,q1.2 _ (k1.1.trans e4.1)⟩
   ·exact absurd (k1.1.trans e4.1) (q1 _)
  ·rw[g7] at h2;simp at h2
 ·rw[k2] at h1;simp at h1
section
attribute [local go_sem] f'
theorem WH {cl C aF:Int} (h:C=i0 cl/\aF=i1 cl) (h0:0<=cl):(C=0\/C=20)/\0<=aF/\aF<72057594037927936:=by
 obtain⟨rfl,rfl⟩:=h;unfold i0 i1;split<;>exact⟨a3,G,G⟩
theorem azl {g:Raw} {N:Nat} (hf:jz g N) {m2 s1 fX:Nat} {jf rY jL uw pT A5:Int} (h1:jf=i0 (c1 g.arcs m2 s1)/\rY=i1 (c1 g.arcs m2 s1)) (h2:jL=i0 (c1 g.arcs m2 fX)/\uw=i1 (c1 g.arcs m2 fX))
 (ap:pT=i0 (c1 g.arcs fX s1)/\A5=i1 (c1 g.arcs fX s1)) (eP:m2<N) (_:s1<N) (mC:fX<N):
 (-9223372036854775808<=uw+A5/\uw+A5<=9223372036854775807)/\((jf=0/\jL=0/\pT=0/\rY<=uw+A5)\/(jL=20/\jf=0)\/(jL=20/\jf=20)\/(jL=0/\pT=20/\jf=0)\/(jL=0/\pT=20/\jf=20)):=by
 have aC:=hf.nodes;have bK:=hf.ok;have p:∀{a b:Nat},a<N->0<=c1 g.arcs a b:=λ{a b} ha=>by
  rcases vu bK (s:=(a:Nat)) (t:=(b:Nat)) ⟨G,G⟩ with⟨d,_,e,h,_⟩|⟨_,e⟩<;>rw[e]<;>omega
 obtain⟨a1,_,_⟩:=WH h1 (p eP);obtain⟨a2,_,_⟩:=WH h2 (p eP);obtain⟨dX,_,_⟩:=WH ap (p mC);obtain⟨q1,q2⟩:=azk bK (s:=(m2:Nat)) (v:=(fX:Nat)) (t:=(s1:Nat)) ⟨G,G⟩ ⟨G,G⟩;simp only[ahk,<-h1.1,<-h1.2,<-h2.1,<-h2.2,<-ap.1,<-ap.2] at q1 q2;refine⟨G,?_⟩;rcases a2 with a4|a4
 ·rcases dX with en|en
  ·exact .inl ⟨(q2 a4 en).1,a4,en,(q2 a4 en).2⟩
  ·rcases a1 with br|br
   ·exact .inr (.inr (.inr (.inl ⟨a4,en,br⟩)))
   ·exact .inr (.inr (.inr (.inr ⟨a4,en,br⟩)))
 ·rcases a1 with br|br
  ·exact .inr (.inl ⟨a4,br⟩)
  ·exact .inr (.inr (.inl ⟨a4,br⟩))
theorem azm (o1 cU:Value) (fl eh bL:Int) (fu:Bool) (aq g2:List Int) (bB b2 cm gc f8 h7:Int) (w:World) (hg:HG w) (hb:ip w o1 dA aq) (a9:ip w cU .u32 g2) (WI:∀x∈g2,0<=x/\x<4294967296) (h1:0<=fl/\fl<=255) (h2:0<=eh/\eh<=255) (ap:0<=bL/\bL<=255)
 (aC:(0<=bB/\bB<=255)/\(0<=b2/\b2<=255)/\(0<=cm/\cm<=255)) (az:(0<=gc/\gc<=255)/\(0<=f8/\f8<=255)/\(0<=h7/\h7<=255)):
 Calls aa 3 #[w4 o1 fl fu cU eh bL,aZ #[r dA bB,r dA b2,r dA cm],aZ #[r dA gc,r dA f8,r dA h7]] w λe D=>e= .returned (aA true)/\ae w D:=by
 obtain⟨aN,tp,WJ,_⟩:=id hb;obtain⟨qF,uD,Pg,_⟩:=id a9;subst WJ Pg;obtain⟨ay,bA⟩:=al (w.alloc (an #[E aN aq.length tp,r dA fl,aA fu,E qF g2.length uD,r dA eh,r dA bL] 25));obtain⟨aJ,cK⟩:=al (ay.alloc (an #[r dA bB,r dA b2,r dA cm] 26));obtain⟨ba,cg⟩:=al (aJ.alloc (an #[r dA gc,r dA f8,r dA h7] 26));obtain⟨bk,el⟩:=al w.heap.size;obtain⟨bh,dW⟩:=al (w.heap.size+1);obtain⟨bF,eV⟩:=al (w.heap.size+1+1);have s1:ay.heap.size=w.heap.size+1:=by rw[bA];simp
 have fX:aJ.heap.size=w.heap.size+1+1:=by rw[cK];simp[s1]
 have cO:=dx bA;have cq:=dx cK;have fT:=dx cg;have k3:=eK bA el;have k4:=eK cK (dW.trans s1.symm);have k5:=eK cg (eV.trans fX.symm);have ck:ae w ba:=(cO.next' cq).next' fT;have cw:=jU (k3.aq (cq.next' fT)) (k4.aq fT) k5 ck;have dN:=I (cv bA (cv cK (cv cg (cv el (cv dW eV)))));have G':=I (ahi ba (hg.later ck));have HG:=jU hg hb a9 WI;have c9:=qV h1 h2 ap aC az;clear bA cK cg el dW eV;unfold w4;go_in;go_wp2_with fail;rw[<-dN.o.1,<-dN.o.2.1,<-dN.o.2.2.1,<-dN.o.2.2.2.2.2,<-dN.o.2.2.2.2.1,<-dN.o.2.2.2.1];refine dl G'.o λbi c_=>?_;have k3:=cw.o.1.aq c_;have bR:=aR k3 0;have aV:=aR k3 1;have bb:=aR k3 2;have ch:=aR k3 3;have gR:=aR k3 4;have gl:=aR k3 5;have ps:=I (af2 (E aN aq.length tp) (E qF g2.length uD) fl eh bL fu aq bi (HG.o.2.1.below (cw.o.2.2.2.next' c_)));unfold w4 at ps;go_wp2_with fail;refine ps.o.mono ?_;rintro e bD ⟨adM,g,rfl,dK,bK,hT,cT⟩;obtain⟨bW,bV,aGi,rfl,ir,iO,li,vg⟩:=id dK;obtain⟨cP,cC,rfl,_⟩:=qk ir;obtain⟨eR,ey,rfl,_⟩:=qk iO;obtain⟨e',eD,rfl,_⟩:=qk li;obtain⟨cG,fq⟩:=al (bD.alloc (an #[r c g.nodes,E cP g.X.length cC,E eR g.Y.length ey,E e' g.arcs.length eD] 31));obtain⟨b_,ni⟩:=al bD.heap.size;have jn:=dx fq;have k7:=eK fq ni;have Lw:=(c_.next' cT).next' jn;have bC:aM (∀u,ae cG u->(u.cell? (B b_ 0)=A (r c g.nodes)/\u.cell? (B b_ 1)=A (E cP g.X.length cC)/\u.cell? (B b_ 2)=A (E eR g.Y.length ey)/\u.cell? (B b_ 3)=A (E e' g.arcs.length eD))/\(u.cell? (B bk 0)=A (E aN aq.length tp)/\u.cell? (B bk 1)=A (r dA fl)/\u.cell? (B bk 2)=A (aA fu)/\u.cell? (B bk 3)=A (E qF g2.length uD)/\u.cell? (B bk 4)=A (r dA eh)/\u.cell? (B bk 5)=A (r dA bL))):=λu Z=>by
  have p:=k7.aq Z;have q:=cw.o.1.aq (Lw.next' Z);exact⟨⟨p.cell 0,p.cell 1,p.cell 2,p.cell 3⟩,q.cell 0,q.cell 1,q.cell 2,q.cell 3,q.cell 4,q.cell 5⟩
 have eH:=jU (dK.raw.below jn) bK hT (cw.o.2.2.2.next' Lw);have g8:=db fq ni;clear fq ni;go_wp2_with fail;rw[<-g8.o.1,<-g8.o.2];refine pF 3 bC.o λdV dz ax=>?_;repeat first|refine fS ?_|refine ea ?_
 have wz:=I (af4 (E aN aq.length tp) (E qF g2.length uD) fl eh bL fu g2 dV (HG.o.2.2.1.below (eH.o.2.2.2.next' dz)) c9.o.1 c9.o.2.1 c9.o.2.2.1);unfold w4 at wz;refine dJ 2 ?_;refine e3 8 #[aZ #[E aN aq.length tp,r dA fl,aA fu,E qF g2.length uD,r dA eh,r dA bL]] wz.o ?_;rintro e cz ⟨k,R,U,q,d,rfl,K,ar,aO,ah,Db,a5⟩;refine⟨_,rfl,λ_=>bC.o cz (dz.next' a5),?_⟩;obtain⟨N,b1⟩:∃N:Nat,(N:Int)=g.nodes:=⟨g.nodes.toNat,bI eH.o.2.1.nodes⟩;have iG:=I (dz.next' a5);have iH:jz g N:=⟨eH.o.2.1,b1,bI eH.o.2.2.1,eH.o.2.2.1.2⟩;have JG:=I (V1 (HG.o.1.later (eH.o.2.2.2.next' iG.o)) iH (bI eH.o.2.1.nodes) (eH.o.1.below iG.o) Db (by rw[lS];omega) (λx ak=>HG.o.2.2.2 x (XT ak)) K ar aO ah);simp only[bN,bM,bO];refine dJ 3 ?_;refine e3 7 #[aZ #[r c g.nodes,E cP g.X.length cC,E eR g.Y.length ey,E e' g.arcs.length eD],pe k U d q R] JG.o ?_ (he:=by unfold pe;go_simp);rintro e hI ⟨df,rfl,bS,ck⟩;refine⟨_,rfl,gj,?_⟩;have bZ:=db bS (iG.o.next' ck);simp only[bN,bM,bO];repeat refine ea ?_
 refine fc ?_;have wY:=I (WE bZ.o.1);have Lx:=ahj (decide (0<(k:Int))) (!(q==0));obtain⟨W,hW⟩:=al (f0 (hasB (decide (0<(k:Int))) (!(q==0))) 6);rw[<-hW] at wY Lx;have Aw:=db hW Lx;have rc:((W.length:Int)==0)=false:=by rw[beq_eq_false_iff_ne];omega
 clear hW;go_wp2_with fail;refine wY.o.mono ?_;rintro e gY ⟨a,azn,rfl,xv,km⟩;go_wp2_with fail;have qj:1<=g.nodes:=eH.o.2.1.nodes.1;have CB:¬g.nodes=0:=G;obtain⟨m2,ud,Ly⟩:=rem_in c9.o.2.2.2.1.1.1 b1 qj;obtain⟨s1,g4,Lz⟩:=rem_in c9.o.2.2.2.1.2.1.1 b1 qj;obtain⟨fX,hK,WK⟩:=rem_in c9.o.2.2.2.1.2.2.1 b1 qj;have ss:aM (∀u,ae gY u->u.cell? (B bh 0)=A (r dA bB)/\u.cell? (B bh 1)=A (r dA b2)/\u.cell? (B bh 2)=A (r dA cm)/\u.cell? (B b_ 0)=A (r c g.nodes)):=λu Z=>by
  have eI:=bZ.o.2.next' (km.next' Z);have p:=k7.aq eI;have q:=cw.o.2.1.aq (Lw.next' eI);exact⟨q.cell 0,q.cell 1,q.cell 2,p.cell 0⟩
 refine pF 20 ss.o λoh abH ax=>?_;repeat first|refine fS ?_|refine ea ?_
 obtain⟨⟨tm,azo⟩,⟨e4,azp⟩,⟨g7,acv⟩⟩:=c9.o.2.2.2.1;refine ct 2 (r c bB) (λ_=>ax) ?_ (az:=λw=>⟨by rfl,by go_simp;exact ll _ G G⟩);refine ct 8 (r c b2) (λ_=>ax) ?_ (az:=λw=>⟨by rfl,by go_simp;exact ll _ G G⟩);refine ct 14 (r c cm) (λ_=>ax) ?_ (az:=λw=>⟨by rfl,by go_simp;exact ll _ G G⟩);repeat refine ea ?_
 refine kr 20 (r c fX) oh ?_;refine fc ?_;have uE:=I (show ae gY oh from abH);have pt:∀y:Int,0<=y->∃(j lA:Nat) (b off:Nat),y.tmod (W.length:Int)=j/\j<W.length/\lA<6/\hasB (decide (0<(k:Int))) (!(q==0)) lA=true/\a=A (B b off)/\∀u,ae gY u->u.cell? (B b (off+j))=A (r c lA):=λy az=>by
  have hlen:=Aw.o.2.1;obtain⟨j,h1,h2⟩:=rem_in (N:=W.length) az rfl G;obtain⟨b,off,e,ah⟩:=xv.at j h2;have hm:W[j]∈f0 (hasB (decide (0<(k:Int))) (!(q==0))) 6:=by rw[<-Aw.o.1];exact gB h2
  obtain⟨lA,a4,ap,bl⟩:=D6.1 hm;refine⟨j,lA,b,off,h1,h2,ap,bl,e,λu Z=>?_⟩;rw[(Z.cell (zA ah)),ah,a4]
 obtain⟨⟨fU,azq⟩,⟨fO,VO⟩,⟨fD,PA⟩⟩:=c9.o.2.2.2.2;obtain⟨ku,e0,kC,cx,u4,ahm,WL,hl,rfl,d0⟩:=pt gc fU;have ahn:(ku:Int)<W.length:=G;have aho:=ew ku;have azr:¬(W.length:Int)=0:=G;have Dc:=d0 oh uE.o;have ek:=cw.o.2.2.1.aq (Lw.next' (bZ.o.2.next' (km.next' uE.o)));have v0:oh.cell? (B bF 0)=A (r dA gc):=ek.cell 0;go_wp2_with fail;have ov:=I (Fy (bZ.o.1.later (km.next' uE.o)) WL (H4 hl) Ly Lz 0);refine ov.o.mono ?_;rintro e D7 ⟨p1,mY,aV,p2,mr,bb,a8,bt,bp,rfl,oo⟩;have zv:=I (uE.o.next' oo);obtain⟨jf,rY,rS⟩:∃C aF,C=i0 (c1 g.arcs m2 s1)/\aF=i1 (c1 g.arcs m2 s1):=⟨_,_,rfl,rfl⟩;rw[<-rS.1,<-rS.2];have EU:=I rS;clear rS;have kx:aM (∀u,ae gY u->u.cell? (B bF 1)=A (r dA f8)/\u.cell? (B bF 2)=A (r dA h7)):=λu Z=>by
  have ek:=cw.o.2.2.1.aq (Lw.next' (bZ.o.2.next' (km.next' Z)));exact⟨ek.cell 1,ek.cell 2⟩
 have k14:=V.new D7 #[r c jf,r c rY,E p1 mY aV,E p2 mr bb] 45 (0,0);have i7:=I (zv.o.alloc zv.o.size (an #[r c jf,r c rY,E p1 mY aV,E p2 mr bb] 45));obtain⟨n4,br,qR,dt,wB,azs,WM,aX,oi,d1⟩:=pt f8 fO;cases oi;have ahp:(n4:Int)<W.length:=G;have ahq:=ew n4;have Dc:=d1 _ i7.o;have v1:=(kx.o _ i7.o).1;have ov:=I (Fy (bZ.o.1.later (km.next' i7.o)) WM (H4 aX) Ly WK 1);have Dd:=I k14;clear d1 k14;go_wp2_with fail;refine ov.o.mono ?_;rintro e xp ⟨e8,th,ch,i6,xK,gR,azt,azu,azv,rfl,pU⟩;have wW:=I (i7.o.next' pU);have Dd:=I (Dd.o.aq pU);clear ov pU Dc v1 wB ahp ahq i7;obtain⟨jL,uw,uV⟩:∃C aF,C=i0 (c1 g.arcs m2 fX)/\aF=i1 (c1 g.arcs m2 fX):=⟨_,_,rfl,rfl⟩;rw[<-uV.1,<-uV.2];have DO:=I uV;clear uV;have k16:=V.new xp #[r c jL,r c uw,E e8 th ch,E i6 xK gR] 45 (0,0);have i7:=I (wW.o.alloc wW.o.size (an #[r c jL,r c uw,E e8 th ch,E i6 xK gR] 45));have Dd:=I (Dd.o.alloc (an #[r c jL,r c uw,E e8 th ch,E i6 xK gR] 45));obtain⟨rn,a4,azw,RE,rp,azx,WN,a5,wy,d2⟩:=pt h7 fD;cases wy;have ahr:(rn:Int)<W.length:=G;have ahs:=ew rn;have Dc:=d2 _ i7.o;have v2:=(kx.o _ i7.o).2;have ov:=I (Fy (bZ.o.1.later (km.next' i7.o)) WN (H4 a5) WK Lz 4);have P0:=I k16;clear d2 k16;go_wp2_with fail;refine ov.o.mono ?_;rintro e wb ⟨rE,vq,gl,ul,ux,kf,azy,azz,azA,rfl,nd⟩;have aht:=I (i7.o.next' nd);have Dd:=I (Dd.o.aq nd);have P0:=I (P0.o.aq nd);clear ov nd Dc v2 rp ahr ahs i7;obtain⟨pT,A5,At⟩:∃C aF,C=i0 (c1 g.arcs fX s1)/\aF=i1 (c1 g.arcs fX s1):=⟨_,_,rfl,rfl⟩;rw[<-At.1,<-At.2];obtain⟨a9,m9⟩:=azl iH EU.o DO.o At Ly Lz WK;have k18:=V.new wb #[r c pT,r c A5,E rE vq gl,E ul ux kf] 45 (0,0);have k14:=Dd.o.alloc (an #[r c pT,r c A5,E rE vq gl,E ul ux kf] 45);have k16:=P0.o.alloc (an #[r c pT,r c A5,E rE vq gl,E ul ux kf] 45);have i7:=I (eH.o.2.2.2.next' (bZ.o.2.next' (km.next' (aht.o.alloc aht.o.size (an #[r c pT,r c A5,E rE vq gl,E ul ux kf] 45)))));have c0:=aR k14 0;have cI:=aR k14 1;have dB:=aR k16 0;have hX:=aR k16 1;have ya:=aR k18 0;have PV:=aR k18 1;clear k14 k16 k18 EU DO At Dd P0;rcases m9 with⟨rfl,rfl,rfl,fh⟩|⟨rfl,rfl⟩|⟨rfl,rfl⟩|⟨rfl,rfl,rfl⟩|⟨rfl,rfl,rfl⟩
 all_goals
  go_wp2_with fail;go_ret;exact⟨rfl,i7.o⟩
end
section
open Go.RowKit Go.Deep
theorem triangle_rd (bR aV bb:Array Value) (w:World) (h0:Rd aa w 25 bR.toList) (h1:Rd aa w 26 aV.toList) (h2:Rd aa w 26 bb.toList) (hg:HG w):
 Calls aa 3 #[aZ bR,aZ aV,aZ bb] w λe D=>e= .returned (aA true)/\ae w D:=by
 obtain⟨o1,cU,fl,eh,bL,fu,aq,g2,e,hb,a9,ak,tm,k0,qJ⟩:=h0.ahl;obtain⟨a,b,R,rfl,r1,r2,eC⟩:=h1.WG;obtain⟨p,q,U,rfl,s1,fX,oM⟩:=h2.WG;rw[e];exact azm o1 cU fl eh bL fu aq g2 a b R p q U w hg hb a9 ak tm k0 qJ ⟨r1,r2,eC⟩ ⟨s1,fX,oM⟩
end
end Go.Proofs.YtnmliebconiefaaGreatDoor
