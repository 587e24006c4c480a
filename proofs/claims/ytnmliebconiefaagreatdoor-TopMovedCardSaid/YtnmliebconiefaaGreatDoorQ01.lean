/- Texts of TopTriangle's and TopMoved's walks, made small by a printer; no conditions. -/
import Derived.Test.YtnmliebconiefaaGreatDoorQ00
import Derived.Deep.Cut
import Derived.Deep.CutRange
import Derived.Deep.CutBlock
import Derived.WalkSmall
import Derived.Maps.OwnSet
import Derived.Maps.Views
import Derived.WideKeyEntry
open Bool renaming false→ao,true→ad
open Go renaming Calls→aE,DataW→kc,Deferred→j2,MemPlace→A8,Program→il,TypeId→cY,Value→ac,World→O,goInt→sK,maxLen→ff,results→gq
open Go.Act renaming eval→io
open Go.Builtin renaming append_→qN
open Go.Ending renaming returned→au
open Go.Instr renaming entryStore→xb,makeSlice→FC,mapEntry→xa,mapUpdate→uN,typeAssert→L4
open Go.IntKind renaming i64→c,u64→j4
open Go.Maps renaming IsMap→Xx,Keyed→aBl,has→o6,size→Do
open Go.Obj renaming cells→an
open Go.Proofs.Tryz renaming prog→aa,results42→aA1
open Go.Region renaming free→uG,noSelect→uF,ready→lQ,wanted→k_
open Go.Result renaming andThen→o5
open Go.RowKit renaming Below→bQ,Below→qb,intOf→cu
open Go.Value renaming agg→aZ,bool→aA,int→r,nilIface→nj,pointer→a6,slice→E,tuple→b8,slice→iB
open Go.WideAt renaming IsKeyLit→aBk
open Go.World renaming cell?→FI,ownsRow→aii
open List renaming range→m8,replicate→d5
open Nat renaming strongRecOn→Xu
open Option renaming none→T,some→A
open Or renaming inr→hD
namespace Go.Proofs.YtnmliebconiefaaGreatDoor
open Go.RowKit Go.Shelf Go.Proofs.Tryz
set_option linter.all false
set_option maxRecDepth 100000
set_option maxHeartbeats 32000000
def Xt:=@Array.getD_eq_getD_getElem?
def QC:=@Array.getElem?_eq_getElem
def v6:=@Array.getElem?_setIfInBounds_ne
def QD:=@Array.toList_modify
def XB:=@Array.toList_push
def Qb:=@Go.RowKit.Below.refl
def FN:=@Int.emod_lt_of_pos
def Ij:=@Int.emod_nonneg
def ew:=@Int.natCast_nonneg
def Dl:=@Int.tmod_eq_emod_of_nonneg
def ain:=@Int.tmod_lt_of_pos
def ko:=@Int.toNat_natCast
def Dk:=@Go.IntKind.wrap_i64
def aBh:=@List.Nodup.erase_eq_filter
def ail:=@List.any_eq_true
def QB:=@List.ext_getElem?
def Xs:=@List.filter_append
def aij:=@List.filter_eq_nil_iff
def L6:=@List.foldl_append
def FM:=@List.foldl_cons
def Xv:=@List.foldl_nil
def pz:=@List.getElem?_cons_succ
def py:=@List.getElem?_cons_zero
def w':=@List.getElem?_map
def Ik:=@List.getElem?_range
def Il:=@List.getElem?_replicate
def uM:=@List.getElem?_set_ne
def tJ:=@List.getElem?_set_self
def Xy:=@List.getElem?_take_of_lt
def gB:=@List.getElem_mem
def L7:=@List.idxOf_append
def Ip:=@List.idxOf_lt_length_of_mem
def Qx:=@List.length_eq_zero_iff
def aik:=@List.length_erase_of_mem
def iT:=@List.length_map
def tK:=@List.length_range
def jD:=@List.length_replicate
def w_:=@List.length_singleton
def qc:=@List.map_append
def Qz:=@List.mem_append_left
def aim:=@List.mem_append_right
def uK:=@List.mem_cons_of_mem
def uL:=@List.mem_cons_self
def Dj:=@List.mem_filter
def FL:=@List.mem_iff_getElem
def QA:=@List.mem_or_eq_of_mem_set
def A':=@List.nodup_append
def Qy:=@List.pairwise_map
def Io:=@List.range_succ
def QE:=@List.set_set
def Bb:=@Go.MapKept.run_getObj_map
def FO:=@Go.MapKept.run_setObj_map
def Ba:=@Go.Maps.atKey_put_other
def In:=@Go.Maps.atKey_put_same
def Dn:=@Go.Maps.has_put_other
def Im:=@Go.Maps.has_put_same
def Qw:=@Nat.le_succ
def Dm:=@Nat.sub_self
def sM:=@Option.getD_some
def nG:=@Go.Proofs.Tryz.underlying41
def aBm:=@Go.WideElems.findIdx_arr
def aBn:=@Go.WideElems.findIdx_born
def r5:=@Go.World.cell?_alloc_lt
def A_:=@Go.World.frozen?_alloc_old
def gh:=@Go.bodyPost_ret
def Xr:=@Go.rounds_succ
def qO:=@Go.run_callFunc_extern
def aA2:=@Go.run_typeAssert_lacksB
variable {mg:Array Bool} {args:Array Value} {jH:Array ac} {aj:Ending → World → Prop} {X:List Int} {ds:List j2} {N b ci eF fuel g i j k n:Nat} {fr:Nat × Nat} {D bH u w:O} {o:Obj} {P:Program} {R:Prop} {Q W ai:World} {v:ac} {aD:bd → Int} {e t:cY} {aF:kc Unit}
def HG (w:O):Prop:=w.cell? ⟨0,0,T⟩=A (.iface 339 (aZ #[a6 (A ⟨1,35,T⟩)]))
theorem HG.later (h:HG w) (hb:bQ w.heap.size w D):HG D:=by
 have aw:(0:Nat)<w.heap.size:=zA h;exact(mO (hb.block 0 aw)).trans h
theorem akg (w:O):aE aa 42 #[nj] w λe D=>e=au (aZ #[r c 0,r c 0,r c 0,r c 0])/\bQ w.heap.size w D:=by
 go_in;go_wp2_with(go_at_call 84;refine(aj' _ _).mono ?_;rintro e D ⟨rfl,rfl⟩)
 exact gh (v:=aZ #[r c 0,r c 0,r c 0,r c 0]) (by simp[gq,aA1,go_sem]) rfl ⟨rfl,(((bx _ _).alloc (bY _) _).alloc a3 _).alloc (by simp;omega) _⟩
def MV (err:ac) (b:Nat) (cs:Array ac):Prop:=
 (∃t v,err= .iface t v)/\∀(t:Nat) (u:O),HG u->V u t #[a6 T] 107 (0,0)->V u b cs 105 (0,0)->
  aE aa 84 #[err,.iface 151 (a6 (A ⟨t,0,T⟩))] u λe D=>e=au (aA ad)/\Kept (·=t) u D/\V D t #[a6 (A ⟨b,0,T⟩)] 107
theorem akh (w:O) (err:ac) (b:Nat) (R oN dO aG:Int) (ha:MV err b #[r c R,r c oN,r c dO,r c aG]) (hg:HG w) (hb:V w b #[r c R,r c oN,r c dO,r c aG] 105):
 aE aa 42 #[err] w λe D=>e=au (aZ #[r c R,r c oN,r c dO,r c aG])/\bQ w.heap.size w D:=by
 have mT:=hb.lt;obtain⟨⟨YT,kM,rfl⟩,bJ⟩:=ha;have aX:V ((w.alloc (an #[r c 0,r c 0,r c 0,r c 0] 105)).alloc (an #[a6 T] 107)) b #[r c R,r c oN,r c dO,r c aG] 105:=(hb.alloc _).alloc _;have gQ:bQ w.heap.size w ((w.alloc (an #[r c 0,r c 0,r c 0,r c 0] 105)).alloc (an #[a6 T] 107)):=((bx _ _).alloc (bY _) _).alloc a3 _;have qj:HG ((w.alloc (an #[r c 0,r c 0,r c 0,r c 0] 105)).alloc (an #[a6 T] 107)):=hg.later gQ;have ht:V ((w.alloc (an #[r c 0,r c 0,r c 0,r c 0] 105)).alloc (an #[a6 T] 107)) (w.heap.size+1) #[a6 T] 107:=by
  have:=V.new (w.alloc (an #[r c 0,r c 0,r c 0,r c 0] 105)) #[a6 T] 107 (0,0)
  rwa[d8] at this
 have ar:V ((w.alloc (an #[r c 0,r c 0,r c 0,r c 0] 105)).alloc (an #[a6 T] 107)) w.heap.size #[r c 0,r c 0,r c 0,r c 0] 105:=(V.new _ _ _ _).alloc _;have C:=I (bJ (w.heap.size+1) _ qj ht aX);have bP:=I aX;have Rz:=I gQ;have cW:=I ar;clear hb hg aX qj gQ ht ar bJ;go_in;go_wp2_with fail;refine C.o.mono ?_;rintro e aJ ⟨rfl,K,yE⟩;have eB:=K.aH bP.o (show¬b=w.heap.size+1 by omega);have lE:=K.aH cW.o (show¬w.heap.size=w.heap.size+1 by omega);have MW:bQ w.heap.size w aJ:=Kept.next Rz.o Rz.o.size (Qw _) K;have xd:=yE.cell 0;have sW:=eB.cell 0;have cO:=eB.cell 1;have cq:=eB.cell 2;have fT:=eB.cell 3;change aJ.cell? ⟨w.heap.size+1,0,T⟩=A (a6 (A ⟨b,0,T⟩)) at xd;change aJ.cell? ⟨b,0,T⟩=A (r c R) at sW;change aJ.cell? ⟨b,1,T⟩=A (r c oN) at cO;change aJ.cell? ⟨b,2,T⟩=A (r c dO) at cq;change aJ.cell? ⟨b,3,T⟩=A (r c aG) at fT;have r0:=lE.cell 0;have r1:=lE.cell 1;have r2:=lE.cell 2;have eC:=lE.cell 3;change aJ.cell? ⟨w.heap.size,0,T⟩=A (r c 0) at r0;change aJ.cell? ⟨w.heap.size,1,T⟩=A (r c 0) at r1;change aJ.cell? ⟨w.heap.size,2,T⟩=A (r c 0) at r2;change aJ.cell? ⟨w.heap.size,3,T⟩=A (r c 0) at eC;have fr:=λi=>lE.free i (hD (cQ _));have j5:=fr 0;have f6:=fr 1;have eF:=fr 2;have f3:=fr 3;have YU:V ((((aJ.setCell ⟨w.heap.size,0,T⟩ (r c R)).setCell ⟨w.heap.size,1,T⟩ (r c oN)).setCell ⟨w.heap.size,2,T⟩ (r c dO)).setCell ⟨w.heap.size,3,T⟩ (r c aG)) w.heap.size #[r c R,r c oN,r c dO,r c aG] 105:=
  (((lE.set 0 (r c R)).set 1 (r c oN)).set 2 (r c dO)).set 3 (r c aG)
 have pK:bQ w.heap.size w ((((aJ.setCell ⟨w.heap.size,0,T⟩ (r c R)).setCell ⟨w.heap.size,1,T⟩ (r c oN)).setCell ⟨w.heap.size,2,T⟩ (r c dO)).setCell ⟨w.heap.size,3,T⟩ (r c aG)):=
  (((MW.setCell (p:=⟨w.heap.size,0,T⟩) (bY _) _).setCell (p:=⟨w.heap.size,1,T⟩) (bY _) _).setCell (p:=⟨w.heap.size,2,T⟩) (bY _) _).setCell (p:=⟨w.heap.size,3,T⟩) (bY _) _
 have Gh:=I YU;have zP:=I pK;clear bP Rz cW C K yE eB lE MW fr YU pK;go_wp2_with fail;generalize(((aJ.setCell ⟨w.heap.size,0,T⟩ (r c R)).setCell ⟨w.heap.size,1,T⟩ (r c oN)).setCell ⟨w.heap.size,2,T⟩ (r c dO)).setCell ⟨w.heap.size,3,T⟩ (r c aG)=hR at*;have fU:=Gh.o.cell 0;have fO:=Gh.o.cell 1;have fD:=Gh.o.cell 2;have iU:=Gh.o.cell 3;change hR.cell? ⟨w.heap.size,0,T⟩=A (r c R) at fU;change hR.cell? ⟨w.heap.size,1,T⟩=A (r c oN) at fO;change hR.cell? ⟨w.heap.size,2,T⟩=A (r c dO) at fD;change hR.cell? ⟨w.heap.size,3,T⟩=A (r c aG) at iU;exact gh (v:=aZ #[r c R,r c oN,r c dO,r c aG]) (by simp[gq,aA1,go_sem,fU,fO,fD,iU]) rfl ⟨rfl,zP.o⟩
def Gi (w:O) (v:ac) (R oN dO aG:Int):Prop:=
 (v=nj/\R=0/\oN=0/\dO=0/\aG=0)\/(R≠0/\∃b,MV v b #[r c R,r c oN,r c dO,r c aG]/\V w b #[r c R,r c oN,r c dO,r c aG] 105)
theorem aki (w:O) (v:ac) (R oN dO aG:Int) (hg:HG w) (h:Gi w v R oN dO aG):aE aa 42 #[v] w λe D=>e=au (aZ #[r c R,r c oN,r c dO,r c aG])/\bQ w.heap.size w D:=by
 rcases h with⟨rfl,rfl,rfl,rfl,rfl⟩|⟨_,b,ha,hb⟩
 ·exact akg w
 ·exact akh w v b R oN dO aG ha hg hb
section
open Go.RowKit Go.Extern.Stop Go.Stop Go.Extern
theorem akj (v:ac) (w:O):(ReflectliteType.typeOf #[.iface 146 v]).run aa w= .ok (.iface 339 (aZ #[a6 (A ⟨1,146,T⟩)])) w:=bq
theorem akk (w:O):(ReflectliteType.relation "AssignableTo" ReflectliteType.assignableTo #[aZ #[a6 (A ⟨1,146,T⟩)],.iface 339 (aZ #[a6 (A ⟨1,107,T⟩)])]).run aa w= .ok (aA ao) w:=bq
theorem akl (v:ac) (w:O):(L4 (.iface 146 v) 35 344 ad).run aa w= .ok (b8 #[nj,aA ao]) w:=
 aA2 underlying344 bq bq v _ w
theorem akm (v:ac) (w:O):(L4 (.iface 146 v) 35 347 ad).run aa w= .ok (b8 #[.iface 146 v,aA ad]) w:=bq
theorem akn (n:Nat) (v:ac) (w:O):(Go.method (n+1) 146 v "Unwrap").run aa w= .ok (356,v) w:=bq
theorem ako (e t:Addr) (rs:ac) (w:O) (hg:w.cell? ⟨0,0,T⟩=A (.iface 339 (aZ #[a6 (A ⟨1,35,T⟩)]))) (IP:w.cell? t=A rs) (RA:w.frozen? t=ao):
 aE aa 84 #[.iface 146 (aZ #[a6 (A e)]),.iface 151 (a6 (A t))] w λkM D=>kM=au (aA ad)/\D=(((((w.alloc (an #[a6 (A t)] 151)).alloc (an #[a6 (A ⟨1,151,T⟩),a6 (A ⟨w.heap.size,0,T⟩),r j4 150] 244)).alloc (an #[a6 (A ⟨1,151,T⟩),a6 (A ⟨w.heap.size,0,T⟩),r j4 150] 244)).alloc (an #[a6 (A e)] 146)).alloc (an #[a6 (A e)] 107)).setCell t (a6 (A e)):=by
 have eI:=@qO aa 157 _ (λargs=>ReflectliteValue.unpack (args.getD 0 (b8 #[]))) func157 bq bq bq bq;have gu:=@qO aa 158 _ (ReflectliteValue.methodAny (ReflectliteValue.valueError "reflectlite.Value.Type" 0) (λt _ _ _=>ReflectliteType.toType t)) func158 bq bq bq bq;have h9:=@qO aa 159 _ (ReflectliteValue.method (ReflectliteValue.valueError "reflectlite.Value.IsNil" 0) ReflectliteValue.isNil) func159 bq bq bq bq;have akp:=@qO aa 347 _ (ReflectliteType.abiMethod λt=>do pure (r .u8 (<-Rtype.kind t))) func347 bq bq bq bq;have akq:=@qO aa 363 _ (ReflectliteType.method ReflectliteType.elem) func363 bq bq bq bq;have akr:=@qO aa 364 _ (ReflectliteType.relation "Implements" ReflectliteType.implements_) func364 bq bq bq bq;have oO:=@qO aa 245 _ ReflectliteType.typeOf func245 bq bq bq bq;have aks:=@qO aa 361 _ (ReflectliteType.relation "AssignableTo" ReflectliteType.assignableTo) func361 bq bq bq bq;have lF:=@qO aa 246 _ (ReflectliteValue.method (ReflectliteValue.valueError "reflectlite.Value.Elem" 0) ReflectliteValue.elem) func246 bq bq bq bq;have sc:=@qO aa 247 _ ReflectliteValue.set func247 bq bq bq bq;have akt:=YO;have aku:=akj;have akv:=akk;have X8:=akl;have akw:=akm;have akx:=akn;have aky:=YL;have akz:=YP;have akA:=YQ;have X1:=YB;have xe:=YC;have akB:=YD;have akC:=YJ;have akD:=YK;have k27:=YE;have k25:=YF;have akE:=YM;have i25:=YN;have akF:=YI ⟨w.heap.size,0,T⟩ t ((w.alloc (an #[a6 (A t)] 151)).alloc (an #[a6 (A ⟨1,151,T⟩),a6 (A ⟨w.heap.size,0,T⟩),r j4 150] 244)) a3;have a0:0<w.heap.size:=by
  rcases Qq w.heap.size with h0|h
  ·simp[FI,h0] at hg
  ·exact h
 have IQ:((w.alloc (an #[a6 (A t)] 151)).alloc (an #[a6 (A ⟨1,151,T⟩),a6 (A ⟨w.heap.size,0,T⟩),r j4 150] 244)).cell? ⟨0,0,T⟩=A (.iface 339 (aZ #[a6 (A ⟨1,35,T⟩)])):=by
  rw[r5 _ _ ⟨0,0,T⟩ a3,r5 _ _ ⟨0,0,T⟩ a0];exact hg
 have By:t.block<w.heap.size:=by
  rcases sJ t.block w.heap.size with h|h
  ·exact h
  ·simp[FI,LP h] at IP
 have Ml:=YR ⟨w.heap.size,0,T⟩ t ((((w.alloc (an #[a6 (A t)] 151)).alloc (an #[a6 (A ⟨1,151,T⟩),a6 (A ⟨w.heap.size,0,T⟩),r j4 150] 244)).alloc (an #[a6 (A ⟨1,151,T⟩),a6 (A ⟨w.heap.size,0,T⟩),r j4 150] 244)).alloc (an #[a6 (A e)] 146)) (by rw[r5 _ _ ⟨w.heap.size,0,T⟩ (by simp;omega),r5 _ _ ⟨w.heap.size,0,T⟩ (by simp;omega)];simp);have st:=YS t ⟨w.heap.size+1+1+1+1,0,T⟩ e rs (((((w.alloc (an #[a6 (A t)] 151)).alloc (an #[a6 (A ⟨1,151,T⟩),a6 (A ⟨w.heap.size,0,T⟩),r j4 150] 244)).alloc (an #[a6 (A ⟨1,151,T⟩),a6 (A ⟨w.heap.size,0,T⟩),r j4 150] 244)).alloc (an #[a6 (A e)] 146)).alloc (an #[a6 (A e)] 107))
  (by rw[World.cell?_alloc_at _ _ _ _ a3];rfl)
  (by rw[r5 _ _ t (by simp;omega),r5 _ _ t (by simp;omega),r5 _ _ t (by simp;omega),r5 _ _ t (by simp;omega),r5 _ _ t By];exact IP)
  (by rw[A_ _ _ t (by simp;omega),A_ _ _ t (by simp;omega),A_ _ _ t (by simp;omega),A_ _ _ t (by simp;omega),A_ _ _ t (Nat.ne_of_lt By)];exact RA)
 go_in;go_wp2;refine wp_loop_rounds 2 ?_;rw[Xr];go_wp2;rw[Xr];go_wp2;go_ret;exact⟨rfl,rfl⟩
theorem akG (b:Nat) (cs:Array ac):MV (.iface 146 (aZ #[a6 (A ⟨b,0,T⟩)])) b cs:=by
 refine⟨⟨_,_,rfl⟩,λt u hg ht _=>?_⟩;have ah:=ht.cell 0;change u.cell? ⟨t,0,T⟩=A (a6 T) at ah;refine(ako ⟨b,0,T⟩ ⟨t,0,T⟩ _ u hg ah (ht.free 0 (hD (cQ _)))).mono ?_;rintro e D ⟨rfl,rfl⟩;refine⟨rfl,(((((Kept.refl (·=t) u).alloc _).alloc _).alloc _).alloc _|>.alloc _).setCell (p:=⟨t,0,T⟩) rfl _,?_⟩;exact(((((ht.alloc _).alloc _).alloc _).alloc _).alloc _).set 0 (a6 (A ⟨b,0,T⟩))
end
abbrev YV:=Int×Int×Int×Int
def RB:Option (Nat×fN)->YV
 |none=>(0,0,0,0)
 |some (k,p)=>(p.co,(k:Nat),p.dO,p.aG)
def Raw.sd (U:Raw):YV:=RB (n6 (lr U.nodes U.X U.Y U.arcs) 0)
theorem YW:∀{L:List (List fN)} {j k:Nat} {p:fN},n6 L j=A (k,p)->∃c7∈L,p∈c7
 |[],_,_,_,h=>by cases h
 |c7::L,j,k,p,h=>by
  rw[n6] at h;split at h
  ·rename_i q aO;obtain⟨_,rfl⟩:=Prod.mk.inj (eT h);exact⟨c7,a3,List.mem_of_find?_eq_some aO⟩
  ·obtain⟨MX,RC,aP⟩:=YW h;exact⟨MX,by simp[RC],aP⟩
theorem YX {Y:List Int}:∀(k:Nat) (p:fN),p∈no X Y k->p.co=7
 |0,p,h=>by cases h
 |k+1,p,h=>by
  rcases fJ.1 h with h|h
  ·exact YX k p h
  ·simp only[sR,gg,iS,or_false] at h;rcases h with rfl|rfl<;>rfl
theorem YY {n:Int} {L:List bd}:∀(k:Nat) (p:fN),p∈nn n L k->p.co=9\/p.co=10
 |0,p,h=>by cases h
 |k+1,p,h=>by
  rcases fJ.1 h with h|h
  ·exact YY k p h
  ·simp only[r9,gg,iS,or_false] at h;rcases h with rfl|rfl|rfl
   ·exact .inl rfl
   ·exact .inl rfl
   ·exact .inr rfl
theorem YZ {nodes:Int} {Y:List Int} {c8:List bd} {p:fN} (h:n6 (lr nodes X Y c8) 0=A (k,p)):p.co≠0:=by
 obtain⟨c7,lc,aP⟩:=YW h;simp only[lr,gg,iS,or_false] at lc;rcases lc with rfl|rfl|rfl|rfl|rfl
 ·simp only[gg,iS,or_false] at aP;subst aP;simp
 ·simp only[gg,iS,or_false] at aP;rcases aP with rfl|rfl<;>simp
 ·rw[YX _ _ aP];decide
 ·simp only[gg,iS,or_false] at aP;subst aP;simp
 ·rcases YY _ _ aP with h|h<;>rw[h]<;>decide
theorem akH {U:Raw} (h:Checked w v U.nodes U.X U.Y U.arcs):Gi w v U.sd.1 U.sd.2.1 U.sd.2.2.1 U.sd.2.2.2:=by
 unfold Raw.sd;rcases h with⟨rfl,h⟩|⟨b,k,p,rfl,h,hb⟩
 ·rw[h];exact .inl ⟨rfl,rfl,rfl,rfl,rfl⟩
 ·rw[h];exact .inr ⟨YZ h,b,akG b _,hb⟩
theorem Y0 (v:ac) (U:Raw) (w:O) (h:uZ w v U):aE aa 33 #[v] w λe D=>∃u,e=au u/\Gi D u U.sd.1 U.sd.2.1 U.sd.2.2.1 U.sd.2.2.2/\bQ w.heap.size w D:=by
 obtain⟨bW,bV,aN,rfl,ak,az,ha⟩:=h;refine(aj_ bW bV aN U.nodes U.X U.Y U.arcs w ak az ha).mono ?_;rintro e D ⟨u,rfl,ah,hb⟩;exact⟨u,rfl,akH ah,hb⟩
theorem Gi.form {R oN dO aG:Int} (h:Gi w v R oN dO aG):(v=nj/\R=0)\/((∃t x,v= .iface t x)/\R≠0):=by
 rcases h with⟨h1,h2,_⟩|⟨ah,b,⟨ap,_⟩,_⟩
 ·exact .inl ⟨h1,h2⟩
 ·exact .inr ⟨ap,ah⟩
def Raw.ok (U:Raw):Prop:=n6 (lr U.nodes U.X U.Y U.arcs) 0=T
theorem Y1:∀{L:List (List fN)} {j:Nat},n6 L j=T->∀c7∈L,∀p∈c7,p.bad=ao
 |[],_,_,c7,h=>by cases h
 |MX::L,j,h,c7,lc=>by
  rw[n6] at h;split at h
  ·cases h
  ·rename_i aO;intro p aP;rcases gg.1 lc with rfl|lc
   ·have:=aie.1 aO p aP;simpa using this
   ·exact Y1 h c7 lc p aP
theorem Y2:∀{L:List (List fN)} {j:Nat},(∀c7∈L,∀p∈c7,p.bad=ao)->n6 L j=T
 |[],_,_=>rfl
 |MX::L,j,h=>by rw[Yv (Yu (h MX a3))];exact Y2 λc7 lc=>h c7 (by simp[lc])
theorem RD (X Y:List Int):∀(k i:Nat),i<k->∀p∈sR i (X[i]?.getD 0,Y[i]?.getD 0),p∈no X Y k
 |k+1,i,ag,p,aP=>by
  refine fJ.2 ?_;rcases sJ i k with h|h
  ·exact .inl (RD X Y k i h p aP)
  ·obtain rfl:i=k:=G;exact .inr aP
theorem Y3 (X Y:List Int):∀(k:Nat),∀p∈no X Y k,∃i,i<k/\p∈sR i (X[i]?.getD 0,Y[i]?.getD 0)
 |0,p,aP=>by cases aP
 |k+1,p,aP=>by
  rcases fJ.1 aP with h|h
  ·obtain⟨i,ag,aP⟩:=Y3 X Y k p h;exact⟨i,G,aP⟩
  ·exact⟨k,G,h⟩
theorem MY (n:Int) (L:List bd):∀(k i:Nat),i<k->∀p∈r9 n i (L[i]?.getD (0,0,0)),p∈nn n L k
 |k+1,i,ag,p,aP=>by
  refine fJ.2 ?_;rcases sJ i k with h|h
  ·exact .inl (MY n L k i h p aP)
  ·obtain rfl:i=k:=G;exact .inr aP
theorem Y4 (n:Int) (L:List bd):∀(k:Nat),∀p∈nn n L k,∃i,i<k/\p∈r9 n i (L[i]?.getD (0,0,0))
 |0,p,aP=>by cases aP
 |k+1,p,aP=>by
  rcases fJ.1 aP with h|h
  ·obtain⟨i,ag,aP⟩:=Y4 n L k p h;exact⟨i,G,aP⟩
  ·exact⟨k,G,h⟩
def oP (x:Int):Prop:=-2147483648<=x/\x<2147483648
def wd (n:Int) (a:bd):Prop:=(0<=a.1/\a.1<n)/\(0<=a.2.1/\a.2.1<n)/\(0<=a.2.2/\a.2.2<2147483648)
structure Raw.e2 (U:Raw):Prop where
 nodes:1<=U.nodes/\U.nodes<=16777216
 yF:(U.X.length:Int)=U.nodes
 yG:(U.Y.length:Int)=U.nodes
 x:∀x∈U.X,oP x
 y:∀y∈U.Y,oP y
 arcs:U.arcs.length<=67108864
 aS:∀a∈U.arcs,wd U.nodes a
theorem Bz {p:fN} (h:p.am<=p.n/\p.n<p.ag):p.bad=ao:=by
 unfold fN.bad;simp only[aAN,decide_eq_false_iff_not];omega
theorem Raw.IR (U:Raw):U.ok↔U.e2:=by
 constructor
 ·intro h;have h0:=Y1 h;simp only[lr,gg,iS,or_false] at h0;have a1:=zI (h0 _ (.inl rfl) ⟨0,0,5,U.nodes,1,16777217⟩ a3);have a2:=zI (h0 _ (.inr (.inl rfl)) ⟨0,0,6,U.X.length,U.nodes,U.nodes+1⟩ a3);have dX:=zI (h0 _ (.inr (.inl rfl)) ⟨0,1,6,U.Y.length,U.nodes,U.nodes+1⟩ a3);have jc:=λp aP=>zI (h0 _ (.inr (.inr (.inl rfl))) p aP);have np:=zI (h0 _ (.inr (.inr (.inr (.inl rfl)))) ⟨0,0,8,U.arcs.length,0,67108865⟩ a3);have IS:=λp aP=>zI (h0 _ (.inr (.inr (.inr (.inr rfl)))) p aP);dsimp only at a1 a2 dX np;have qU:U.X.length=U.Y.length:=G;refine⟨G,G,G,λx ak=>?_,λy az=>?_,G,λa ha=>?_⟩
  ·obtain⟨i,ag,rfl⟩:=FL.1 ak;have:=jc _ (RD U.X U.Y U.X.length i ag ⟨i,0,7,U.X[i]?.getD 0,-2147483648,2147483648⟩ (by simp[sR]));rw[eA ag] at this;exact this
  ·obtain⟨i,ag,rfl⟩:=FL.1 az;have:=jc _ (RD U.X U.Y U.X.length i G ⟨i,1,7,U.Y[i]?.getD 0,-2147483648,2147483648⟩ (by simp[sR]));rw[eA ag] at this;exact this
  ·obtain⟨i,ag,rfl⟩:=FL.1 ha;have cO:=IS _ (MY U.nodes U.arcs U.arcs.length i ag ⟨i,0,9,(U.arcs[i]?.getD (0,0,0)).1,0,U.nodes⟩ (by simp[r9]));have cq:=IS _ (MY U.nodes U.arcs U.arcs.length i ag ⟨i,1,9,(U.arcs[i]?.getD (0,0,0)).2.1,0,U.nodes⟩ (by simp[r9]));have fT:=IS _ (MY U.nodes U.arcs U.arcs.length i ag ⟨i,2,10,(U.arcs[i]?.getD (0,0,0)).2.2,0,2147483648⟩ (by simp[r9]));rw[eA ag] at cO cq fT;exact⟨cO,cq,fT⟩
 ·intro h;refine Y2 λc7 lc p aP=>?_;simp only[lr,gg,iS,or_false] at lc;have h1:=h.nodes;have h2:=h.yF;have ap:=h.yG;have bl:=h.arcs;rcases lc with rfl|rfl|rfl|rfl|rfl
  ·simp only[gg,iS,or_false] at aP;subst aP;exact Bz (by dsimp only;omega)
  ·simp only[gg,iS,or_false] at aP;rcases aP with rfl|rfl<;>exact Bz (by dsimp only;omega)
  ·obtain⟨i,ag,aP⟩:=Y3 _ _ _ _ aP;have az:i<U.Y.length:=G;rw[eA ag,eA az] at aP;simp only[sR,sM,gg,iS,or_false] at aP;rcases aP with rfl|rfl
   ·exact Bz (h.x _ (gB ag))
   ·exact Bz (h.y _ (gB az))
  ·simp only[gg,iS,or_false] at aP;subst aP;exact Bz (by dsimp only;omega)
  ·obtain⟨i,ag,aP⟩:=Y4 _ _ _ _ aP;rw[eA ag] at aP;have ha:=h.aS _ (gB ag);simp only[r9,sM,gg,iS,or_false] at aP;rcases aP with rfl|rfl|rfl
   ·exact Bz ha.1
   ·exact Bz ha.2.1
   ·exact Bz ha.2.2
theorem Raw.Y5 (U:Raw):U.sd.1=0↔U.ok:=by
 unfold Raw.sd Raw.ok;cases h:n6 (lr U.nodes U.X U.Y U.arcs) 0 with
 |none=>simp[RB]
 |some Gj=>
  obtain⟨k,p⟩:=Gj;simp only[RB];exact⟨λe=>(YZ h e).elim,λe=>by cases e⟩
theorem Y6 (L:List Int) (k:Nat) (u:Int) (K:k<L.length):(L.flatMap ec).set k (r c u)=(L.set k u).flatMap ec:=by
 have h:=DA 1 ec Bs L k 0 u (r c u) K G (λx _=>rfl)
 rwa[FH,uH] at h
theorem lV.Y7 {ay W:O} {b6:Nat} {bV aN:ac} {cap:Nat} {U:Raw} (h:lV ay b6 (E (A ⟨g,0,T⟩) n cap) bV aN U W) (aC:U.X.length=n) (k:Nat) (K:k<U.X.length) (u:Int):
 lV ay b6 (E (A ⟨g,0,T⟩) n cap) bV aN {U with X:=U.X.set k u} (W.setCell ⟨g,k,T⟩ (r c u)):=by
 have fZ:=h.own.1;obtain⟨pL,cur,ah⟩:=di fZ (g:=g) rfl;have IT:b6≠g:=λe=>by
  subst e;have a4:=(show W.heap[b6]? =A _ from h.aH).symm.trans (show W.heap[b6]? =A _ from ah);cases a4
 have nK:=fB h.own.2.1 (D:=W.setCell ⟨g,k,T⟩ (r c u)) λb hb=>d7 _ _ _ _ (λe=>h.own.2.2.2 g rfl (by rw[hb];exact congrArg A e));have cx:=zH h.own.2.2.1 (p:=⟨g,k,T⟩) ah bj (r c u);have m_:=Bt (n:=n) (by rw[<-aC];rw[<-aC] at fZ;exact fZ) k (r c u);rw[Y6 _ _ _ K] at m_;refine⟨h.aH.gr ⟨g,k,T⟩ (r c u) IT,⟨?_,nK,cx,h.own.2.2.2⟩,?_⟩
 ·show aii _ _ _ _ _ (U.X.set k _).length _;rw[gN,aC];exact m_
 ·have K:=h.kept;exact⟨K.os,K.tape,K.output,by simpa using K.size,λj av aB=>(d7 _ _ _ _ (show j≠g by omega)).trans (K.block j av aB)⟩
theorem lV.Y8 {ay W:O} {b6:Nat} {bW aN:ac} {cap:Nat} {U:Raw} (h:lV ay b6 bW (E (A ⟨g,0,T⟩) n cap) aN U W) (aC:U.Y.length=n) (k:Nat) (K:k<U.Y.length) (u:Int):
 lV ay b6 bW (E (A ⟨g,0,T⟩) n cap) aN {U with Y:=U.Y.set k u} (W.setCell ⟨g,k,T⟩ (r c u)):=by
 have fZ:=h.own.2.1;obtain⟨pL,cur,ah⟩:=di fZ (g:=g) rfl;have IT:b6≠g:=λe=>by
  subst e;have a4:=(show W.heap[b6]? =A _ from h.aH).symm.trans (show W.heap[b6]? =A _ from ah);cases a4
 have m_:=fB h.own.1 (D:=W.setCell ⟨g,k,T⟩ (r c u)) λb hb=>d7 _ _ _ _ (λe=>h.own.2.2.2 b hb (by rw[e];rfl));have cx:=zH h.own.2.2.1 (p:=⟨g,k,T⟩) ah bj (r c u);have nK:=Bt (n:=n) (by rw[<-aC];rw[<-aC] at fZ;exact fZ) k (r c u);rw[Y6 _ _ _ K] at nK;refine⟨h.aH.gr ⟨g,k,T⟩ (r c u) IT,⟨m_,?_,cx,h.own.2.2.2⟩,?_⟩
 ·show aii _ _ _ _ _ (U.Y.set k _).length _;rw[gN,aC];exact nK
 ·have K:=h.kept;exact⟨K.os,K.tape,K.output,by simpa using K.size,λj av aB=>(d7 _ _ _ _ (show j≠g by omega)).trans (K.block j av aB)⟩
section
theorem qk {base:Nat} {size:Nat} {b7:List ac} (h:w.ownsRow base e size v n b7):∃a R,v=E a n R/\(0<n->∃g,a=A ⟨g,0,T⟩):=by
 rcases h.2 with⟨h,h0⟩|⟨g,cap,cur,h,_⟩
 ·exact⟨_,_,by rw[h0];exact h,λh=>by omega⟩
 ·exact⟨_,_,h,λ_=>⟨g,rfl⟩⟩
section
variable {P:il} {ops:Array Oper} {bT:Exit->Act->O->Prop} {S:O->Prop}
theorem akI {d:Nat} {dg:Oper} {listed:Array Bool} {tmps:Array ac} (ag:ops[i]? =A dg) (a9:dg.dst=A d) (aB:uF ops=ad) (hf:uG .any ops listed i=ad)
 (ar:(lQ .any ops listed).contains i=ad) (hU:∀R a w,bT (.panic R) (a.put dg.dst undef) w->bT (.panic R) a w) (bU:k_ dg (yielded ops tmps)=ao) (cb:S w)
 (h:wpAnyH P .any ops bT S fuel (listed.setIfInBounds i ad) {tmps:=tmps.setIfInBounds d undef,defers:=ds} w):wpAnyH P .any ops bT S (fuel+1) listed {tmps:=tmps,defers:=ds} w:=
 wpAnyH_take ag aB hf ar hU (hD ⟨bU,rfl⟩) cb (by rw[a9];exact h)
end
end
section
theorem dx (h:ai=Q.alloc o):Below Q.heap.size Q ai:=h▸(Below.refl _ _).alloc (Nat.le_refl _) _
theorem oQ {dt:Obj} (h:ai=(Q.alloc o).alloc dt):Below Q.heap.size Q ai:=h▸((Below.refl _ _).alloc (Nat.le_refl _) _).alloc (by simp) _
theorem tW {dt RE:Obj} (h:ai=((Q.alloc o).alloc dt).alloc RE):Below Q.heap.size Q ai:=h▸(((Below.refl _ _).alloc (Nat.le_refl _) _).alloc (by simp) _).alloc (by simp;omega) _
theorem fb:Below Q.heap.size Q (Q.alloc o):=(Below.refl _ _).alloc (Nat.le_refl _) _
theorem eK {cs:Array Value} {t:TypeId} {ai:Nat} (h:W=Q.alloc (.cells cs t)) (cd:ai=Q.heap.size):V W ai cs t (0,0):=by rw[h,cd];exact V.new _ _ _ _
theorem aR {w:World} {l:List Value} {t:TypeId} (k:V w b l.toArray t fr) (i:Nat) {x:Value} (h:l[i]? =some x:=by rfl):w.cell? ⟨b,i,none⟩=some x:=by
 rw[k.cell];simpa using h
theorem jw {w:World} {cs:Array Value} {t:TypeId} (k:V w b cs t (0,0)) (i:Nat):w.frozen? ⟨b,i,none⟩=false:=k.free i (Or.inr (Nat.zero_le _))
theorem db {a b:Prop} (x:a) (y:b):aM (a/\b):=⟨x,y⟩
theorem ig {a b:Prop} (x:a) (y:b) (z:R):aM (a/\b/\R):=⟨x,y,z⟩
theorem jU {a b d:Prop} (x:a) (y:b) (z:R) (u:d):aM (a/\b/\R/\d):=⟨x,y,z,u⟩
theorem qV {a b d e:Prop} (x:a) (y:b) (z:R) (u:d) (v:e):aM (a/\b/\R/\d/\e):=⟨x,y,z,u,v⟩
theorem hJ:∀(fn:Fn) (first cap:Array Value) (w:World),(Instr.makeFunc fn first cap).run P w= .ok (.func fn first cap) w:=λ_ _ _ _=>rfl
section
variable {F:Fence} {n:Nat} {P:Program} {ops:Array Oper} {bT:Exit->Act->World->Prop} {S:World->Prop} {aF:Nat} {d:Nat} {dg:Oper} {fuel:Nat} {listed:Array Bool} {tmps:Array Value} {ds:List Deferred} {w:World} {a:Act}
theorem dJ (i:Nat) (h:wpOpIn F n P ops bT i (λfM D=>((listed.setIfInBounds i true).getD aF true=false->S D)/\ej F n P ops bT S aF fuel (listed.setIfInBounds i true) fM D) a w) (ar:Region.ready .any ops listed=[i]:=by kernel_rfl):ej F n P ops bT S aF (fuel+1) listed a w:=Q2 ar h
theorem fs (i:Nat) (h:wpOp P ops bT i (λfM D=>S D/\wpAnyH P .any ops bT S fuel (listed.setIfInBounds i true) fM D) a w) (ar:Region.ready .any ops listed=[i]:=by kernel_rfl):wpAnyH P .any ops bT S (fuel+1) listed a w:=ai9 ar h
theorem fc (h:bT .normal a w) (ar:Region.ready .any ops listed=[]:=by kernel_rfl):ej F n P ops bT S aF fuel listed a w:=ai8 ar h _
theorem i4 (h:bT .normal a w) (ar:Region.ready .any ops listed=[]:=by kernel_rfl):wpAnyH P .any ops bT S fuel listed a w:=wpAnyH_done ar h _
variable {i:Nat} {o:Oper} {aT:Act->World->Prop}
theorem gD (v:Value) (D:World) (K:aT {tmps:=tmps.setIfInBounds d v,defers:=ds} D) (gO:F.round=none:=by rfl) (ag:ops[i]? =some o:=by rfl) (a9:o.dst=some d:=by rfl) (bU:Region.wanted o (yielded ops tmps)=true:=by rfl)
 (hb:o.about P w (Act.eval {tmps:=tmps,defers:=ds})=none:=by rfl) (he:(execOp (Act.eval {tmps:=tmps,defers:=ds}) o).run P w= .ok (.value v) D:=by go_simp):wpOpIn F n P ops bT i aT {tmps:=tmps,defers:=ds} w:=Mr gO ag a9 bU hb he K
theorem e3 (f:FuncId) (args:Array Value) {D:World} (ah:Calls P f args D aj) (K:∀e fo,aj e fo->∃v,e= .returned v/\aT {tmps:=tmps.setIfInBounds d v,defers:=ds} fo) (ag:ops[i]? =some o:=by rfl) (a9:o.dst=some d:=by rfl) (bU:Region.wanted o (yielded ops tmps)=true:=by rfl)
 (he:(execOp (Act.eval {tmps:=tmps,defers:=ds}) o).run P w= .ok (.enter f args) D:=by go_simp):wpOpIn Fence.wide 9 P ops bT i aT {tmps:=tmps,defers:=ds} w:=F1 ag a9 bU he ah K
theorem lG (D:World) (K:aT {tmps:=tmps,defers:=ds} D) (gO:F.round=none:=by rfl) (ag:ops[i]? =some o:=by rfl) (a9:o.dst=none:=by rfl) (bU:Region.wanted o (yielded ops tmps)=true:=by rfl)
 (hb:o.about P w (Act.eval {tmps:=tmps,defers:=ds})=none:=by rfl) (he:(execOp (Act.eval {tmps:=tmps,defers:=ds}) o).run P w= .ok .skip D:=by go_simp):wpOpIn F n P ops bT i aT {tmps:=tmps,defers:=ds} w:=X6 gO ag a9 bU hb he K
theorem gE (f:FuncId) {D:World} (ah:Calls P f args D aj) (K:∀v fo,aj (.returned v) fo->aT {tmps:=tmps.setIfInBounds d v,defers:=ds} fo) (ag:ops[i]? =some o:=by rfl) (a9:o.dst=some d:=by rfl) (bU:Region.wanted o (yielded ops tmps)=true:=by rfl)
 (he:(execOp (Act.eval {tmps:=tmps,defers:=ds}) o).run P w= .ok (.enter f args) D:=by go_simp) (aP:∀fp fo,aj (.panicked fp) fo->False:=by rintro _ _ ⟨h,_⟩;cases h) (aQ:∀fo,aj .outgrown fo->False:=by rintro _ ⟨h,_⟩;cases h):wpOp P ops bT i aT {tmps:=tmps,defers:=ds} w:=ai_ ag a9 bU he ah K aP aQ
variable {mE:Array Bool} {nI:Array Value}
theorem kr (i:Nat) (v:Value) (D:World) (h:ej F n P ops bT S aF fuel mE {tmps:=nI,defers:=ds} D) (ar:Region.ready .any ops listed=[i]:=by kernel_rfl) (gO:F.round=none:=by rfl) (ag:ops[i]? =some o:=by rfl) (a9:o.dst=some d:=by rfl) (bU:Region.wanted o (yielded ops tmps)=true:=by rfl)
 (hb:o.about P w (Act.eval {tmps:=tmps,defers:=ds})=none:=by rfl) (he:(execOp (Act.eval {tmps:=tmps,defers:=ds}) o).run P w= .ok (.value v) D:=by go_simp)
 (aw:listed.setIfInBounds i true=mE:=by(try simp only[List.setIfInBounds_toArray,List.set_cons_zero,List.set_cons_succ]);rfl) (ht:tmps.setIfInBounds d v=nI:=by(try simp only[List.setIfInBounds_toArray,List.set_cons_zero,List.set_cons_succ]);rfl) (ak:mE.getD aF true=false->S D:=by intro h;cases h):ej F n P ops bT S aF (fuel+1) listed {tmps:=tmps,defers:=ds} w:=by
 subst aw;subst ht;exact Q2 ar (Mr gO ag a9 bU hb he ⟨ak,h⟩)
theorem jG (i:Nat) (D:World) (h:ej F n P ops bT S aF fuel mE {tmps:=tmps,defers:=ds} D) (ar:Region.ready .any ops listed=[i]:=by kernel_rfl) (gO:F.round=none:=by rfl) (ag:ops[i]? =some o:=by rfl) (a9:o.dst=none:=by rfl) (bU:Region.wanted o (yielded ops tmps)=true:=by rfl)
 (hb:o.about P w (Act.eval {tmps:=tmps,defers:=ds})=none:=by rfl) (he:(execOp (Act.eval {tmps:=tmps,defers:=ds}) o).run P w= .ok .skip D:=by go_simp)
 (aw:listed.setIfInBounds i true=mE:=by(try simp only[List.setIfInBounds_toArray,List.set_cons_zero,List.set_cons_succ]);rfl) (ak:mE.getD aF true=false->S D:=by intro h;cases h):ej F n P ops bT S aF (fuel+1) listed {tmps:=tmps,defers:=ds} w:=by
 subst aw;exact Q2 ar (X6 gO ag a9 bU hb he ⟨ak,h⟩)
end
end
section
section
variable {F:Fence} {n:Nat} {P:Program} {ops:Array Oper} {bT:Exit->Act->World->Prop} {S:World->Prop} {aF:Nat} {d:Nat} {dg:Oper} {fuel:Nat} {listed:Array Bool} {tmps:Array Value} {ds:List Deferred} {w:World} {a:Act} {mE:Array Bool} {nI:Array Value}
theorem eY (i:Nat) (cb:S w) (h:wpAnyH P .any ops bT S fuel mE {tmps:=nI,defers:=ds} w) (ag:ops[i]? =some dg:=by rfl) (a9:dg.dst=some d:=by rfl) (aB:Region.noSelect ops=true:=by kernel_rfl) (hf:Region.free .any ops listed i=true:=by kernel_rfl) (ar:(Region.ready .any ops listed).contains i=true:=by kernel_rfl)
 (hU:∀R a w,bT (.panic R) (a.put dg.dst undef) w->bT (.panic R) a w:=by exactλ_ _ _ h=>h) (bU:Region.wanted dg (yielded ops tmps)=false:=by rfl)
 (aw:listed.setIfInBounds i true=mE:=by(try simp only[List.setIfInBounds_toArray,List.set_cons_zero,List.set_cons_succ]);rfl) (ht:tmps.setIfInBounds d undef=nI:=by(try simp only[List.setIfInBounds_toArray,List.set_cons_zero,List.set_cons_succ]);rfl):wpAnyH P .any ops bT S (fuel+1) listed {tmps:=tmps,defers:=ds} w:=by subst aw;subst ht;exact akI ag a9 aB hf ar hU bU cb h
theorem eZ (i:Nat) (v:Value) (cb:S w) (h:wpAnyH P .any ops bT S fuel mE {tmps:=nI,defers:=ds} w) (ag:ops[i]? =some dg:=by rfl) (a9:dg.dst=some d:=by rfl) (aB:Region.noSelect ops=true:=by kernel_rfl) (hf:Region.free .any ops listed i=true:=by kernel_rfl) (ar:(Region.ready .any ops listed).contains i=true:=by kernel_rfl)
 (hU:∀R a w,bT (.panic R) (a.put dg.dst v) w->bT (.panic R) a w:=by exactλ_ _ _ h=>h) (bU:Region.wanted dg (yielded ops tmps)=true:=by rfl) (az:∀w,S w->(execOp (Act.eval {tmps:=tmps,defers:=ds}) dg).run P w= .ok (.value v) w:=by intro w cb;go_simp)
 (aw:listed.setIfInBounds i true=mE:=by(try simp only[List.setIfInBounds_toArray,List.set_cons_zero,List.set_cons_succ]);rfl) (ht:tmps.setIfInBounds d v=nI:=by(try simp only[List.setIfInBounds_toArray,List.set_cons_zero,List.set_cons_succ]);rfl):wpAnyH P .any ops bT S (fuel+1) listed {tmps:=tmps,defers:=ds} w:=by subst aw;subst ht;exact Q3 ag a9 aB hf ar hU bU az cb h
theorem lH (i:Nat) (v:Value) (cb:S w) (h:ej F n P ops bT S aF fuel mE {tmps:=nI,defers:=ds} w) (gO:F.round=none:=by rfl) (ag:ops[i]? =some dg:=by rfl) (a9:dg.dst=some d:=by rfl) (aB:Region.noSelect ops=true:=by kernel_rfl) (hf:Region.free .any ops listed i=true:=by kernel_rfl) (ar:(Region.ready .any ops listed).contains i=true:=by kernel_rfl) (qe:(aF !=i)=true:=by kernel_rfl) (Bg:waits ops aF i=true:=by kernel_rfl) (fh:listed.getD aF true=false:=by kernel_rfl)
 (hU:∀R a w,bT (.panic R) (a.put dg.dst v) w->bT (.panic R) a w:=by exactλ_ _ _ h=>h) (bU:Region.wanted dg (yielded ops tmps)=true:=by rfl) (az:∀w,S w->dg.about P w (Act.eval {tmps:=tmps,defers:=ds})=none/\(execOp (Act.eval {tmps:=tmps,defers:=ds}) dg).run P w= .ok (.value v) w:=by exactλw cb=>⟨by rfl,by go_simp⟩)
 (aw:listed.setIfInBounds i true=mE:=by(try simp only[List.setIfInBounds_toArray,List.set_cons_zero,List.set_cons_succ]);rfl) (ht:tmps.setIfInBounds d v=nI:=by(try simp only[List.setIfInBounds_toArray,List.set_cons_zero,List.set_cons_succ]);rfl):ej F n P ops bT S aF (fuel+1) listed {tmps:=tmps,defers:=ds} w:=by subst aw;subst ht;exact ai5 gO ag a9 aB hf ar qe Bg fh hU bU az cb h
theorem ct (i:Nat) (v:Value) (cb:listed.getD aF true=false->S w) (h:ej F n P ops bT S aF fuel mE {tmps:=nI,defers:=ds} w) (gO:F.round=none:=by rfl) (ag:ops[i]? =some dg:=by rfl) (a9:dg.dst=some d:=by rfl) (aB:Region.noSelect ops=true:=by kernel_rfl) (hf:Region.free .any ops listed i=true:=by kernel_rfl) (ar:(Region.ready .any ops listed).contains i=true:=by kernel_rfl) (qe:(aF !=i)=true:=by kernel_rfl)
 (hU:∀R a w,bT (.panic R) (a.put dg.dst v) w->bT (.panic R) a w:=by exactλ_ _ _ h=>h) (bU:Region.wanted dg (yielded ops tmps)=true:=by rfl) (az:∀w,dg.about P w (Act.eval {tmps:=tmps,defers:=ds})=none/\(execOp (Act.eval {tmps:=tmps,defers:=ds}) dg).run P w= .ok (.value v) w:=by exactλw=>⟨by rfl,by go_simp⟩)
 (aw:listed.setIfInBounds i true=mE:=by(try simp only[List.setIfInBounds_toArray,List.set_cons_zero,List.set_cons_succ]);rfl) (ht:tmps.setIfInBounds d v=nI:=by(try simp only[List.setIfInBounds_toArray,List.set_cons_zero,List.set_cons_succ]);rfl):ej F n P ops bT S aF (fuel+1) listed {tmps:=tmps,defers:=ds} w:=by subst aw;subst ht;exact Q1 gO ag a9 aB hf ar qe hU bU az cb h
end
end
theorem yH {F:Fence} {f:FuncId} {w:World} {aD:Ending} (h:CallsIn F n P f args w λe u=>e=aD/\u=W) (k:aj aD W):CallsIn F n P f args w aj:=h.mono (by rintro _ _ ⟨rfl,rfl⟩;exact k)
theorem eO {f:FuncId} {w:World} {aD:Ending} (h:Calls P f args w λe u=>e=aD/\u=W) (k:aj aD W):Calls P f args w aj:=h.mono (by rintro _ _ ⟨rfl,rfl⟩;exact k)
section
section
variable {F:Fence} {n:Nat} {P:Program} {ops:Array Oper} {bT:Exit->Act->World->Prop} {S:World->Prop} {aF:Nat}
def kN (ops:Array Oper) (i:Nat):Nat:=match ops[i]? with
 |some o=>o.dst.getD 0
 |none=>0
def tX (ops:Array Oper) (i j:Nat):Bool:=match ops[i]? with
 |some o=>o.after.any λe=>Region.binds .any e&&e.on==j
 |none=>false
def rt (l:Array Bool) (aj:List Nat):Array Bool:=aj.foldl (λl i=>l.setIfInBounds i true) l
def na (ops:Array Oper) (v:Nat->Value) (t:Array Value) (aj:List Nat):Array Value:=aj.foldl (λt i=>t.setIfInBounds (kN ops i) (v i)) t
theorem Y9 (aj:List Nat):∀(l:Array Bool) (k:Nat),(rt l aj)[k]? =if k∈aj then(if k<l.size then some true else none) else l[k]? :=by
 induction aj with
 |nil=>intro l k;simp[rt]
 |cons x aj d4=>
  intro l k;show(rt (l.setIfInBounds x true) aj)[k]? =_;rw[d4];by_cases h1:k∈aj
  ·simp[h1]
  ·by_cases h2:k=x
   ·subst h2;simp[h1,Array.getElem?_setIfInBounds_self]
   ·simp[h1,h2,Array.getElem?_setIfInBounds_ne (Ne.symm h2)]
theorem Y_ (v:Nat->Value) (aj:List Nat):∀t:Array Value,(na ops v t aj).size=t.size:=by
 induction aj with
 |nil=>intro l;rfl
 |cons x aj d4=>intro l;exact(d4 _).trans (by simp)
theorem IU (v:Nat->Value) (aj:List Nat):∀(t:Array Value) (s:Nat),(∀j∈aj,kN ops j≠s)->(na ops v t aj)[s]? =t[s]? :=by
 induction aj with
 |nil=>intro l s _;rfl
 |cons x aj d4=>
  intro t s h;show(na ops v (t.setIfInBounds (kN ops x) (v x)) aj)[s]? =_;rw[d4 _ _ λj av=>h j (List.mem_cons_of_mem _ av),Array.getElem?_setIfInBounds_ne (h x (List.mem_cons_self ..))]
theorem MZ (v:Nat->Value) (aj:List Nat):∀t:Array Value,(aj.map (kN ops)).Nodup->∀j∈aj,kN ops j<t.size->(na ops v t aj)[kN ops j]? =some (v j):=by
 induction aj with
 |nil=>intro _ _ j av;cases av
 |cons x aj d4=>
  intro t aC j av aB;obtain⟨h1,h2⟩:=List.nodup_cons.1 (show((kN ops x)::aj.map (kN ops)).Nodup from aC);show(na ops v (t.setIfInBounds (kN ops x) (v x)) aj)[_]? =_;rcases List.mem_cons.1 av with rfl|av
  ·rw[IU _ _ _ _ λk K e=>h1 (List.mem_map.2 ⟨k,K,e⟩)];simp[aB]
  ·exact d4 _ h2 j av (by simpa using aB)
theorem map_inj {ep FX:Type} {f:ep->FX}:∀{l:List ep},(l.map f).Nodup->∀a∈l,∀b∈l,f a=f b->a=b
 |[],_,a,h,_,_,_=>by cases h
 |x::l,h,a,ha,b,hb,e=>by
  obtain⟨h1,h2⟩:=List.nodup_cons.1 (show((f x)::l.map f).Nodup from h);rcases List.mem_cons.1 ha with q1|q1<;>rcases List.mem_cons.1 hb with q2|q2
  ·exact q1.trans q2.symm
  ·subst q1;exact absurd (List.mem_map.2 ⟨b,q2,e.symm⟩) h1
  ·subst q2;exact absurd (List.mem_map.2 ⟨a,q1,e⟩) h1
  ·exact map_inj h2 a q1 b q2 e
structure we (ops:Array Oper) (bH:World) (jH:Array Value) (C:Nat->Value->Nat->Nat->World->Prop) (fj:List Nat) (dZ:Nat->Value) (am ag:Nat->Nat) (t:Array Value) (w:World):Prop where
 below:Go.RowKit.Below bH.heap.size bH w
 size:t.size=jH.size
 other:∀s,(∀j∈fj,kN ops j≠s)->t[s]? =jH[s]?
 own:∀j∈fj,t[kN ops j]? =some (dZ j)/\C j (dZ j) (am j) (ag j) w/\bH.heap.size<=am j/\am j<=ag j/\ag j<=w.heap.size
 apart:∀i∈fj,∀j∈fj,i≠j->ag i<=am j\/ag j<=am i
theorem we.base {bH:World} {jH:Array Value} {C:Nat->Value->Nat->Nat->World->Prop} {fj:List Nat} {dZ:Nat->Value} {am ag:Nat->Nat} {t:Array Value} {w:World} (hF:we ops bH jH C fj dZ am ag t w) {aj:List Nat} (aB:∀j∈fj,j∈aj) (s:Nat) (h:(aj.all λj=>kN ops j !=s)=true:=by kernel_rfl):t[s]? =jH[s]? :=
 hF.other s λj av e=>by
  have:=List.all_eq_true.1 h j (aB j av);rw[e] at this;simp at this
theorem we.jV {bH:World} {jH:Array Value} {C:Nat->Value->Nat->Nat->World->Prop} {fj:List Nat} {dZ:Nat->Value} {am ag:Nat->Nat} {t:Array Value} {w:World} (hF:we ops bH jH C fj dZ am ag t w) {aj:List Nat} (a9:∀j∈aj,tX ops i j=true->j∈fj) (j d:Nat) (h:(aj.contains j&&tX ops i j&&kN ops j==d)=true:=by kernel_rfl):
 t[d]? =some (dZ j)/\C j (dZ j) (am j) (ag j) w/\bH.heap.size<=am j/\am j<=ag j/\ag j<=w.heap.size:=by
 simp only[Bool.and_eq_true,List.contains_eq_mem,decide_eq_true_eq,beq_iff_eq] at h;rw[<-h.2];exact hF.own j (a9 j h.1.1 h.1.2)
end
end
section
section
variable {F:Fence} {n:Nat} {P:il} {ops:Array Oper} {bT:Exit->Act->O->Prop} {S:O->Prop} {aF:Nat}
def IV (ops:Array Oper) (listed:Array Bool) (size:Nat) (aj hZ:List Nat) (fuel:Nat):Bool:=
 (aj.all λj=>!listed.getD j ad&&decide (kN ops j<size)&&match ops[j]? with
  |some o=>o.dst.isSome&&o.after.all λe=>!Region.binds .any e||(decide (e.on<j)&&(listed.getD e.on ao||aj.contains e.on))
  |none=>ao)&&decide (aj.map (kN ops)).Nodup&&decide (aj.length<=fuel)&&
 (m8 ops.size).all λk=>listed.getD k ad||aj.contains k||((m8 ops.size).any λm=>!listed.getD m ad&&!aj.contains m&&tX ops k m)||hZ.all λj=>tX ops k j||aj.any λm=>tX ops k m&&tX ops m j
theorem Y' (aj:List Nat) (C:Nat->ac->Nat->Nat->O->Prop) {hZ IW:List Nat} (BA:aj=hZ++IW) (akJ:IW=[]\/∃h3,IW=[h3]) (cf:IV ops mg jH.size aj hZ (aj.length+eF)=ad)
 (bJ:∀j v l h w D,C j v l h w->qb w.heap.size w D->h<=w.heap.size->C j v l h D) (cb:∀D,qb bH.heap.size bH D->S D)
 (tY:∀i∈aj,∀(fj:List Nat) dZ am ag t w,(∀j∈aj,tX ops i j=ad->j∈fj)->(∀j∈fj,j∈aj)->we ops bH jH C fj dZ am ag t w->
  wpOpIn F n P ops bT i (λfM D=>∃v,fM={tmps:=t.setIfInBounds (kN ops i) v,defers:=ds}/\qb w.heap.size w D/\C i v w.heap.size D.heap.size D) {tmps:=t,defers:=ds} w)
 (akK:∀dZ am ag w,IW≠[]->we ops bH jH C hZ dZ am ag (na ops dZ jH hZ) w->ej F n P ops bT S aF (0+1+eF) (rt mg hZ) {tmps:=na ops dZ jH hZ,defers:=ds} w)
 (o8:∀dZ am ag w,we ops bH jH C aj dZ am ag (na ops dZ jH aj) w->ej F n P ops bT S aF eF (rt mg aj) {tmps:=na ops dZ jH aj,defers:=ds} w):
 ∀(m:Nat) (fj:List Nat) (listed:Array Bool) dZ am ag t w,(aj.filter λj=>!fj.contains j).length=m->(∀j∈fj,j∈aj)->(∀i∈fj,∀j∈aj,tX ops i j=ad->j∈fj)->listed.size=mg.size->(∀k:Nat,listed[k]? =if k∈fj then(if k<mg.size then A ad else T) else mg[k]?)->we ops bH jH C fj dZ am ag t w->
  ej F n P ops bT S aF (m+eF) listed {tmps:=t,defers:=ds} w:=by
 simp only[IV,tH,LQ,Xg,decide_eq_true_eq,ahY,tI,Xh] at cf;obtain⟨⟨⟨ql,lE⟩,BB⟩,IX⟩:=cf;intro m
 induction m with
 |zero=>
  intro fj listed dZ am ag t w hm wg mh DE aw hF;have sO:∀j∈aj,j∈fj:=λj av=>by
   by_cases h:j∈fj
   ·exact h
   ·have:j∈aj.filter λj=>!fj.contains j:=Dj.2 ⟨av,by simpa using h⟩;rw[Qx.1 hm] at this;cases this
  have zQ:∀k,k∈fj↔k∈aj:=λk=>⟨wg k,sO k⟩;have br:listed=rt mg aj:=by
   apply P_;intro k;rw[aw,Y9];simp only[zQ]
  have a4:t=na ops dZ jH aj:=by
   apply P_;intro s;by_cases h:∃j∈aj,kN ops j=s
   ·obtain⟨j,av,rfl⟩:=h;rw[MZ _ _ _ lE j av (ql j av).1.2];exact(hF.own j (sO j av)).1
   ·have h2:∀j∈aj,kN ops j≠s:=λj av e=>h ⟨j,av,e⟩;rw[IU _ _ _ _ h2];exact hF.other s λj av=>h2 j (wg j av)
  rw[jC,br,a4];exact o8 dZ am ag w ⟨hF.below,Y_ _ _ _,λs h=>IU _ _ _ _ h,λj av=>⟨MZ _ _ _ lE j av (ql j av).1.2,(hF.own j (sO j av)).2⟩,λi ia j av=>hF.apart i (sO i ia) j (sO j av)⟩
 |succ m d4=>
  intro fj listed dZ am ag t w hm wg mh DE aw hF;by_cases xt:∃U∈hZ,U∉fj
  case neg=>
   have BC:∀U∈hZ,U∈fj:=λU ar=>by
    by_cases h:U∈fj
    ·exact h
    ·exact absurd ⟨U,ar,h⟩ xt
   rcases akJ with rfl|⟨h3,rfl⟩
   ·have:(aj.filter λj=>!fj.contains j)=[]:=aij.2 λj av=>by
     rw[BA,yn] at av;simpa using BC j av
    rw[this] at hm;cases hm
   have Za:h3∉fj:=λh=>by
    have:(aj.filter λj=>!fj.contains j)=[]:=aij.2 λj av=>by
     rw[BA] at av;rcases fJ.1 av with q|q
     ·simpa using BC j q
     ·rw[f2.1 q];simpa using h
    rw[this] at hm;cases hm
   have hnd:aj.Nodup:=(Qy.1 lE).imp λh e=>h (congrArg _ e);have BD:h3∉hZ:=λh=>by
    rw[BA] at hnd;exact(A'.1 hnd).2.2 _ h _ (f2.2 rfl) rfl
   have zQ:∀k,k∈fj↔k∈hZ:=λk=>⟨λh=>by
    have:=wg k h;rw[BA] at this;rcases fJ.1 this with q|q
    ·exact q
    ·rw[f2.1 q] at h;exact absurd h Za,BC k⟩
   have Zb:∀j∈hZ,j∈aj:=λj av=>by rw[BA];exact Qz _ av
   have br:listed=rt mg hZ:=by
    apply P_;intro k;rw[aw,Y9];simp only[zQ]
   have Zc:(hZ.map (kN ops)).Nodup:=by
    rw[BA,qc] at lE;exact(A'.1 lE).1
   have a4:t=na ops dZ jH hZ:=by
    apply P_;intro s;by_cases h:∃j∈hZ,kN ops j=s
    ·obtain⟨j,av,rfl⟩:=h;rw[MZ _ _ _ Zc j av (ql j (Zb j av)).1.2];exact(hF.own j (BC j av)).1
    ·have h2:∀j∈hZ,kN ops j≠s:=λj av e=>h ⟨j,av,e⟩;rw[IU _ _ _ _ h2];exact hF.other s λj av=>h2 j ((zQ j).1 av)
   have lu:m=0:=by
    have:(aj.filter λj=>!fj.contains j)=[h3]:=by
     rw[BA,Xs,aij.2 λj av=>by simpa using BC j av];simp[Za]
    rw[this] at hm;simpa using hm.symm
   subst lu;rw[br,a4];exact akK dZ am ag w (by simp) ⟨hF.below,Y_ _ _ _,λs h=>IU _ _ _ _ h,λj av=>⟨MZ _ _ _ Zc j av (ql j (Zb j av)).1.2,(hF.own j (BC j av)).2⟩,λi ia j av=>hF.apart i (BC i ia) j (BC j av)⟩
  have yt:∀j∈aj,j∉fj->listed.getD j ad=ao:=λj av aC=>by
   have q:=(ql j av).1.1;simp only[Xt,aw,if_neg aC] at q⊢;exact q
  have Gk:∀k,listed.getD k ao=ad->mg.getD k ao=ad\/k∈fj:=λk K=>by
   by_cases h:k∈fj
   ·exact .inr h
   ·simp only[Xt,aw,if_neg h] at K⊢;exact .inl K
  have M0:∀j∈aj,j<mg.size:=λj av=>by
   have q:=(ql j av).1.1;rcases sJ j mg.size with h|h
   ·exact h
   ·simp[h] at q
  have nM:∀k,mg.getD k ao=ad\/k∈fj->listed.getD k ao=ad:=λk K=>by
   by_cases h:k∈fj
   ·simp[aw,h,M0 k (wg k h)]
   ·rcases K with K|K
    ·simp only[Xt,aw,if_neg h] at K⊢;exact K
    ·exact absurd K h
  have hex:∃U∈aj,U∉fj:=by
   cases aO:aj.filter λj=>!fj.contains j with
   |nil=>rw[aO] at hm;cases hm
   |cons U l=>
    have:U∈aj.filter λj=>!fj.contains j:=by rw[aO];exact uL ..
    obtain⟨h1,h2⟩:=Dj.1 this;exact⟨U,h1,by simpa using h2⟩
  have tZ:∃U∈aj,U∉fj/\∀j∈aj,j<U->j∈fj:=by
   obtain⟨U,h1,h2⟩:=hex
   induction U using Xu with
   |_ U akL=>
    by_cases h:∃j∈aj,j<U/\j∉fj
    ·obtain⟨j,q1,q2,bm⟩:=h;exact akL j q2 q1 bm
    ·refine⟨U,h1,h2,λj av a0=>?_⟩;by_cases q:j∈fj
     ·exact q
     ·exact absurd ⟨j,av,a0,q⟩ h
  have fP:∀i,i∈aj->i∉fj->(aj.filter λj=>!(i::fj).contains j).length=m:=λi wh IY=>by
   have hnd:aj.Nodup:=(Qy.1 lE).imp λh e=>h (congrArg _ e);have e:(aj.filter λj=>!(i::fj).contains j)=(aj.filter λj=>!fj.contains j).erase i:=by
    rw[aBh (hnd.filter _),List.filter_filter];refine List.filter_congr λj _=>?_;simp only[List.contains_cons,bne,Bool.not_or]
   rw[e,aik (Dj.2 ⟨wh,by simpa using IY⟩),hm];rfl
  rw[Nat.succ_add];refine⟨λh0=>?_,λi ia=>?_⟩
  ·obtain⟨U,h1,h2,ap⟩:=tZ;exfalso;have Bp:U∈lQ .any ops listed:=by
    refine FF.2 ⟨yt U h1 h2,?_⟩;have q:=(ql U h1).2;cases aQ:ops[U]? with
    |none=>rw[aQ] at q;cases q
    |some o=>
     rw[aQ] at q;simp only[tH,Array.all_eq_true,ahY,Xg,decide_eq_true_eq] at q;refine⟨o,rfl,λe he hb=>?_⟩;obtain⟨k,K,rfl⟩:=Array.mem_iff_getElem.1 he;rcases q.2 k K with q2|⟨q2,bm⟩
     ·rw[hb] at q2;cases q2
     ·refine nM _ ?_;rcases bm with bm|bm
      ·exact .inl bm
      ·exact .inr (ap _ (by simpa using bm) q2)
   rw[h0] at Bp;cases Bp
  ·obtain⟨Gl,dg,RF,sO⟩:=FF.1 ia;have RG:i<ops.size:=(gU.1 RF).1;have IY:i∉fj:=λh=>by
    have:=nM i (.inr h);rcases sJ i listed.size with q|q
    ·simp[q] at this Gl;rw[this] at Gl;cases Gl
    ·simp[q] at Gl
   have wh:i∈aj:=by
    have akM:mg.getD i ad=ao:=by
     simp only[Xt,aw,if_neg IY] at Gl⊢;exact Gl
    have RH:∀U,tX ops i U=ad->listed.getD U ao=ad:=λU h=>by
     unfold tX at h;rw[RF] at h;simp only[Xc,tH,beq_iff_eq] at h;obtain⟨k,K,g',iE⟩:=h;have jx:=sO _ (Xd K) g'
     rwa[iE] at jx
    have Gm:=IX i RG;simp only[ail,tI,tH,Xg] at Gm;rcases Gm with((q|q)|⟨U,_,⟨q1,q2⟩,bm⟩)|q
    ·rw[akM] at q;cases q
    ·simpa using q
    ·exfalso;have akN:U∉fj:=λh=>by have:=wg U h;simp[this] at q2
     rcases Gk U (RH U bm) with g|g
     ·rcases sJ U mg.size with z|z
      ·simp[z] at g q1;rw[q1] at g;cases g
      ·simp[z] at g
     ·exact akN g
    ·obtain⟨U,Zd,h2⟩:=xt;have h1:U∈aj:=by rw[BA];exact Qz _ Zd
     exfalso;have pM:=yt U h1 h2;have nH:listed.getD U ao=ad->False:=λjx=>by
      rcases sJ U listed.size with z|z
      ·simp[z] at jx pM;rw[jx] at pM;cases pM
      ·simp[z] at pM
     rcases q U Zd with g|⟨zR,lv,g',iE⟩
     ·exact nH (RH U g)
     ·rcases Gk zR (RH zR g') with z|z
      ·have fD:=(ql zR lv).1.1;have iU:=M0 zR lv;simp[iU] at z fD;rw[fD] at z;cases z
      ·exact h2 (mh zR z U h1 iE)
   have hp:∀j∈aj,tX ops i j=ad->j∈fj:=λj av h=>by
    unfold tX at h;rw[RF] at h;simp only[Xc,tH,beq_iff_eq] at h;obtain⟨k,K,g',iE⟩:=h;have jx:=sO _ (Xd K) g';rw[iE] at jx;rcases Gk j jx with q|q
    ·have pM:=(ql j av).1.1;have u4:=M0 j av;simp[u4] at q pM;rw[q] at pM;cases pM
    ·exact q
   refine Ib ?_ (tY i wh fj dZ am ag t w hp wg hF);rintro fM D ⟨v,rfl,hb,ah⟩;have gQ:=hF.below.trans (hb.mono hF.below.size);refine⟨λ_=>cb D gQ,d4 (i::fj) _ (λk=>if k=i then v else dZ k) (λk=>if k=i then w.heap.size else am k) (λk=>if k=i then D.heap.size else ag k) _ D (fP i wh IY) (λj av=>?_) (λk K j av h=>?_) (by simpa using DE) (λk=>?_) ?_⟩
   ·rcases gg.1 av with rfl|av
    ·exact wh
    ·exact wg j av
   ·rcases gg.1 K with rfl|K
    ·exact uK _ (hp j av h)
    ·exact uK _ (mh k K j av h)
   ·by_cases K:k=i
    ·subst K;simp[DE,M0 k wh]
    ·rw[v6 (h8 K),aw];simp[K]
   ·have b9:∀j∈fj,j≠i:=λj av e=>IY (e▸av);have M1:∀j∈fj,kN ops i≠kN ops j:=λj av e=>b9 j av (map_inj lE j (wg j av) i wh e.symm);refine⟨gQ,by simpa using hF.size,λs aB=>?_,λj av=>?_,λa ha b fi zS=>?_⟩
    ·rw[v6 (aB i (uL ..))];exact hF.other s λj av=>aB j (uK _ av)
    ·rcases gg.1 av with rfl|av
     ·simp only[if_true];refine⟨?_,ah,hF.below.size,hb.size,bY _⟩;have:=(ql j wh).1.2;rw[<-hF.size] at this;simp[this]
     ·obtain⟨q1,q2,bm,cZ,ek⟩:=hF.own j av;simp only[if_neg (b9 j av)];exact⟨by rw[v6 (M1 j av)];exact q1,bJ _ _ _ _ _ _ q2 hb ek,bm,cZ,cM ek hb.size⟩
    ·rcases gg.1 ha with q1|q1<;>rcases gg.1 fi with q2|q2
     ·exact absurd (q1.trans q2.symm) zS
     ·simp only[if_pos q1,if_neg (b9 b q2)];exact .inr (hF.own b q2).2.2.2.2
     ·simp only[if_pos q2,if_neg (b9 a q1)];exact .inl (hF.own a q1).2.2.2.2
     ·simp only[if_neg (b9 a q1),if_neg (b9 b q2)];exact hF.apart a q1 b q2 zS
theorem yI (aj:List Nat) (C:Nat->ac->Nat->Nat->O->Prop) {mE:Array Bool} {nI:(Nat->ac)->Array ac}
 (bJ:∀j v l h w D,C j v l h w->qb w.heap.size w D->h<=w.heap.size->C j v l h D) (cb:∀D,qb bH.heap.size bH D->S D)
 (tY:∀i∈aj,∀(fj:List Nat) dZ am ag t w,(∀j∈aj,tX ops i j=ad->j∈fj)->(∀j∈fj,j∈aj)->we ops bH jH C fj dZ am ag t w->
  wpOpIn F n P ops bT i (λfM D=>∃v,fM={tmps:=t.setIfInBounds (kN ops i) v,defers:=ds}/\qb w.heap.size w D/\C i v w.heap.size D.heap.size D) {tmps:=t,defers:=ds} w)
 (o8:∀(dZ:Nat->ac) (am ag:Nat->Nat) w,qb bH.heap.size bH w->(∀j∈aj,C j (dZ j) (am j) (ag j) w/\bH.heap.size<=am j/\am j<=ag j/\ag j<=w.heap.size)->(∀i∈aj,∀j∈aj,i≠j->ag i<=am j\/ag j<=am i)->ej F n P ops bT S aF eF mE {tmps:=nI dZ,defers:=ds} w)
 (hf:fuel=aj.length+eF:=by rfl) (cf:IV ops mg jH.size aj aj (aj.length+eF)=ad:=by kernel_rfl)
 (aw:rt mg aj=mE:=by simp only[rt,FM,Xv,bN,bM,bO];rfl)
 (ht:∀v,na ops v jH aj=nI v:=by intro v;simp only[na,FM,Xv,kN,la,py,pz,sM,bN,bM,bO];rfl):
 ej F n P ops bT S aF fuel mg {tmps:=jH,defers:=ds} bH:=by
 subst hf;subst aw;refine Y' (aF:=aF) (S:=S) (hZ:=aj) (IW:=[]) aj C (yn aj).symm (.inl rfl) cf bJ cb tY (λ_ _ _ _ h=>absurd rfl h) (λdZ am ag w h=>by rw[ht];exact o8 dZ am ag w h.below (λj av=>(h.own j av).2) h.apart) aj.length [] mg (λ_=>nj) (λ_=>0) (λ_=>0) jH bH ?_ (λ_ h=>(by cases h)) (λ_ h=>(by cases h)) rfl (λk=>by simp) ⟨Qb _ _,rfl,λ_ _=>rfl,λ_ h=>(by cases h),λ_ h=>(by cases h)⟩;simp
theorem Ze {v ca:Nat->ac}:∀(aj:List Nat) (t:Array ac),(∀j∈aj,ca j=v j)->na ops ca t aj=na ops v t aj
 |[],_,_=>rfl
 |x::aj,t,h=>by
  show na ops ca (t.setIfInBounds (kN ops x) (ca x)) aj=na ops v (t.setIfInBounds (kN ops x) (v x)) aj;rw[h x (uL ..)];exact Ze aj _ λj av=>h j (uK _ av)
theorem RI (hZ:List Nat) (h3:Nat) (C:Nat->ac->Nat->Nat->O->Prop) {mE:Array Bool} {nI:(Nat->ac)->Array ac} {dg:Oper}
 (bJ:∀j v l h w D,C j v l h w->qb w.heap.size w D->h<=w.heap.size->C j v l h D) (cb:∀D,qb bH.heap.size bH D->S D)
 (tY:∀i∈hZ++[h3],∀(fj:List Nat) dZ am ag t w,(∀j∈hZ++[h3],tX ops i j=ad->j∈fj)->(∀j∈fj,j∈hZ++[h3])->we ops bH jH C fj dZ am ag t w->
  wpOpIn F n P ops bT i (λfM D=>∃v,fM={tmps:=t.setIfInBounds (kN ops i) v,defers:=ds}/\qb w.heap.size w D/\C i v w.heap.size D.heap.size D) {tmps:=t,defers:=ds} w)
 (akO:∀(dZ:Nat->ac) (am ag:Nat->Nat) t w,we ops bH jH C hZ dZ am ag t w->∃v,(∀w,dg.about P w (io {tmps:=t,defers:=ds})=T/\(execOp (io {tmps:=t,defers:=ds}) dg).run P w= .ok (.value v) w)/\C h3 v w.heap.size w.heap.size w)
 (o8:∀(dZ:Nat->ac) (am ag:Nat->Nat) w,qb bH.heap.size bH w->(∀j∈hZ++[h3],C j (dZ j) (am j) (ag j) w/\bH.heap.size<=am j/\am j<=ag j/\ag j<=w.heap.size)->(∀i∈hZ++[h3],∀j∈hZ++[h3],i≠j->ag i<=am j\/ag j<=am i)->ej F n P ops bT S aF eF mE {tmps:=nI dZ,defers:=ds} w)
 (gO:F.round=T:=by rfl) (ag:ops[h3]? =A dg:=by rfl) (a9:dg.dst=A (kN ops h3):=by rfl) (aB:uF ops=ad:=by kernel_rfl) (se:uG .any ops (rt mg hZ) h3=ad:=by kernel_rfl) (Bp:(lQ .any ops (rt mg hZ)).contains h3=ad:=by kernel_rfl) (qe:(aF !=h3)=ad:=by kernel_rfl)
 (hU:∀v R a w,bT (.panic R) (a.put dg.dst v) w->bT (.panic R) a w:=by exactλ_ _ _ _ h=>h) (bU:∀t,k_ dg (yielded ops t)=ad:=by intro t;rfl)
 (hf:fuel=(hZ++[h3]).length+eF:=by rfl) (cf:IV ops mg jH.size (hZ++[h3]) hZ ((hZ++[h3]).length+eF)=ad:=by kernel_rfl)
 (aw:rt mg (hZ++[h3])=mE:=by simp only[rt,fW,f1,FM,Xv,bN,bM,bO];rfl)
 (ht:∀v,na ops v jH (hZ++[h3])=nI v:=by intro v;simp only[na,fW,f1,FM,Xv,kN,la,py,pz,sM,bN,bM,bO];rfl):
 ej F n P ops bT S aF fuel mg {tmps:=jH,defers:=ds} bH:=by
 subst hf;subst aw;have Zf:∀dZ am ag w,we ops bH jH C (hZ++[h3]) dZ am ag (na ops dZ jH (hZ++[h3])) w->ej F n P ops bT S aF eF (rt mg (hZ++[h3])) {tmps:=na ops dZ jH (hZ++[h3]),defers:=ds} w:=
  λdZ am ag w h=>by rw[ht];exact o8 dZ am ag w h.below (λj av=>(h.own j av).2) h.apart
 have Zg:=cf;simp only[IV,tH,LQ,decide_eq_true_eq] at Zg;obtain⟨⟨⟨ql,lE⟩,_⟩,_⟩:=Zg;have BD:h3∉hZ:=λh=>by
  have hnd:(hZ++[h3]).Nodup:=(Qy.1 lE).imp λh e=>h (congrArg _ e);exact(A'.1 hnd).2.2 _ h _ (f2.2 rfl) rfl
 have RJ:∀j∈hZ,kN ops h3≠kN ops j:=λj av e=>BD ((map_inj lE j (Qz _ av) h3 (aim _ (f2.2 rfl)) e.symm)▸av);have hP:kN ops h3<jH.size:=(ql h3 (aim _ (f2.2 rfl))).1.2;refine Y' (aF:=aF) (S:=S) (hZ++[h3]) C rfl (.inr ⟨h3,rfl⟩) cf bJ cb tY (λdZ am ia w _ h=>?_) Zf (hZ++[h3]).length [] mg (λ_=>nj) (λ_=>0) (λ_=>0) jH bH (by simp) (λ_ h=>(by cases h)) (λ_ h=>(by cases h)) rfl (λk=>by simp) ⟨Qb _ _,rfl,λ_ _=>rfl,λ_ h=>(by cases h),λ_ h=>(by cases h)⟩;obtain⟨v,az,ah⟩:=akO dZ am ia _ w h;have br:(rt mg hZ).setIfInBounds h3 ad=rt mg (hZ++[h3]):=by unfold rt;rw[L6];rfl
 have a4:(na ops dZ jH hZ).setIfInBounds (kN ops h3) v=na ops (λk=>if k=h3 then v else dZ k) jH (hZ++[h3]):=by
  have q:na ops (λk=>if k=h3 then v else dZ k) jH hZ=na ops dZ jH hZ:=Ze hZ _ λj av=>if_neg λ(e:j=h3)=>BD (e▸av);unfold na at q⊢;rw[L6,q];simp
 rw[jC,Nat.add_comm 1 eF];refine Q1 gO ag a9 aB se Bp qe (hU v) (bU _) az (λ_=>cb _ h.below) ?_;rw[br,a4];refine Zf _ (λk=>if k=h3 then w.heap.size else am k) (λk=>if k=h3 then w.heap.size else ia k) w ?_;rw[<-a4];refine⟨h.below,by simpa using h.size,λs aB=>?_,λj av=>?_,λa ha b hb zS=>?_⟩
 ·rw[v6 (aB h3 (aim _ (f2.2 rfl)))];exact h.other s λj av=>aB j (Qz _ av)
 ·rcases fJ.1 av with av|av
  ·have b9:j≠h3:=λe=>BD (e▸av);obtain⟨q1,q2⟩:=h.own j av;simp only[if_neg b9];exact⟨by rw[v6 (RJ j av)];exact q1,q2⟩
  ·obtain rfl:=f2.1 av;simp only[if_true];refine⟨?_,ah,h.below.size,bY _,bY _⟩;have:=h.size;simp[this,hP]
 ·rcases fJ.1 ha with ha|ha<;>rcases fJ.1 hb with hb|hb
  ·simp only[if_neg (show a≠h3 fromλe=>BD (e▸ha)),if_neg (show b≠h3 fromλe=>BD (e▸hb))];exact h.apart a ha b hb zS
  ·simp only[if_neg (show a≠h3 fromλe=>BD (e▸ha)),if_pos (f2.1 hb)];exact .inl (h.own a ha).2.2.2.2
  ·simp only[if_neg (show b≠h3 fromλe=>BD (e▸hb)),if_pos (f2.1 ha)];exact .inr (h.own b hb).2.2.2.2
  ·exact absurd ((f2.1 ha).trans (f2.1 hb).symm) zS
end
end
theorem RK (w:O):cR w (E T 0 0) []:=⟨T,0,rfl,bY _,cQ _,λi ag=>by cases ag⟩
structure zT where
 am:Nat
 a:Option Addr
 cap:Nat
 l:List Int
def pN (w:O) (p:Nat) (L:zT) (at':Nat):Prop:=
 V w p #[E L.a L.l.length L.cap,r c at'] 60 (0,0)/\L.l.length<=1000/\at'<=1000000/\∀i (h:i<L.l.length),∃b off,L.a=A (B b off)/\b≠p/\b<L.am/\w.cell? (B b (off+i))=A (r .u8 L.l[i])
theorem pN.kept {S:Nat->Prop} {p:Nat} {L:zT} (h:pN w p L k) (K:Kept S w D) (aP:¬S p) (cb:∀b,b<L.am->b≠p->¬S b):pN D p L k:=by
 obtain⟨h1,h2,ap,bl⟩:=h;refine⟨K.aH h1 aP,h2,ap,λi ag=>?_⟩;obtain⟨b,off,ha,hb,aw,ah⟩:=bl i ag;exact⟨b,off,ha,hb,aw,(mO (K.block b (zA ah) (cb b aw hb))).trans ah⟩
theorem pN.below {p:Nat} {L:zT} (h:pN w p L k) (hb:ae w D):pN D p L k:=
 h.kept (S:=λ_=>False) ⟨hb.os,hb.tape,hb.output,hb.size,λk K _=>hb.block k K⟩ id (λ_ _ _=>id)
theorem Zh (p:Nat) (L:zT) (k:Nat) (n:Int) (w:O) (h:pN w p L k) (K:k<1000000) (aC:n<=1000000):
 aE aa 35 #[J p 0,r c n] w λe D=>∃x hY,e=au (r c x)/\(0<=x/\(x<n\/x=0)/\x<=1000000)/\hY<=k+1/\pN D p L hY/\Kept (·=p) w D:=by
 have a9:=h;obtain⟨am,a,cap,L⟩:=L;obtain⟨h1,h2,ap,bl⟩:=h;dsimp only at h1 h2 ap bl;have bR:=aR h1 0;have aV:=aR h1 1;have jd:=I a9;clear a9;by_cases hL:L.length=0
 ·have b5:(L.length:Int)=0:=G;rw[hL] at bR;clear h1 bl hL h2 ap b5;go_in;go_wp2_with fail;go_ret;exact⟨0,k,rfl,⟨G,.inr rfl,G⟩,G,jd.o,⟨rfl,rfl,rfl,bY _,λ_ _ _=>rfl⟩⟩
 ·by_cases BE:n<1
  ·have b5:¬(L.length:Int)=0:=G;clear h1 bl h2 ap;go_in;go_wp2_with fail;go_ret;exact⟨0,k,rfl,⟨G,.inr rfl,G⟩,G,jd.o,⟨rfl,rfl,rfl,bY _,λ_ _ _=>rfl⟩⟩
  ·have b5:¬(L.length:Int)=0:=G;have DF:¬n=0:=G;have f6:=h1.free 1 (hD (cQ _));have je:=h1.set 1 (r c ((k:Int)+1));have d0:=je.cell 0;have d1:=je.cell 1;change(w.setCell (B p 1) (r c ((k:Int)+1))).cell? (B p 0)=A (E a L.length cap) at d0;change(w.setCell (B p 1) (r c ((k:Int)+1))).cell? (B p 1)=A (r c ((k:Int)+1)) at d1;obtain⟨j,av⟩:∃j:Nat,(k:Int).tmod L.length=(j:Int):=⟨k%L.length,by simp[Int.tmod]⟩;have pH:j<L.length:=by
    have:=ain (k:Int) (show(0:Int)<L.length by omega);omega
   obtain⟨b,off,rfl,IZ,mT,ah⟩:=bl j pH;have d2:(w.setCell (B p 1) (r c ((k:Int)+1))).cell? (B b (off+j))=A (r .u8 L[j]):=(mO (d7 _ _ _ _ IZ)).trans ah;obtain⟨x,ak⟩:=al (L[j]);rw[<-ak] at d2;have ma:(j:Int)<L.length:=G;have u4:=ew j;have cw:aM (Kept (·=p) w (w.setCell (B p 1) (r c ((k:Int)+1)))):=I ((⟨rfl,rfl,rfl,bY _,λ_ _ _=>rfl⟩:Kept (·=p) w w).setCell (p:=B p 1) rfl _);have zU:aM (pN (w.setCell (B p 1) (r c ((k:Int)+1))) p ⟨am,A (B b off),cap,L⟩ (k+1)):=I (by
    refine⟨je,h2,G,λi ag=>?_⟩;obtain⟨qR,My,fm,fi,sf,RL⟩:=bl i ag;exact⟨qR,My,fm,fi,sf,(mO (d7 _ _ _ _ fi)).trans RL⟩)
   clear h1 bl ah ak je mT jd;go_in;go_wp2_with fail;generalize w.setCell (B p 1) (r c ((k:Int)+1))=ay at*;clear bR aV f6
   go_quiet (fail)
   go_wp2;go_ret;exact⟨_,k+1,rfl,⟨Ij _ DF,.inl (FN _ G),Int.le_trans (Int.le_of_lt (FN _ G)) aC⟩,bY _,zU.o.below ⟨rfl,rfl,rfl,bY _,λ_ _=>rfl⟩,⟨cw.o.os,cw.o.tape,cw.o.output,cw.o.size,cw.o.block⟩⟩
theorem akP (p:Nat) (L:zT) (k:Nat) (w:O) (h:pN w p L k) (K:k+1<1000000):
 aE aa 36 #[J p 0] w λe D=>∃x hY,e=au (r c x)/\(0<=x/\x<2147483648)/\hY<=k+2/\pN D p L hY/\Kept (·=p) w D:=by
 have jd:=I h;have ks:=I (λn (aC:n<=1000000) (u:O) (hY:Nat) (a9:pN u p L hY) (eQ:hY<1000000)=>Zh p L hY n u a9 eQ aC);clear h;go_in;go_wp2_with fail;refine(ks.o 12 bj w k jd.o G).mono ?_;rintro e ay ⟨x,k1,rfl,⟨j7,j8,_⟩,pa,lW,BF⟩;have ak:x<12:=by rcases j8 with h|h<;>omega
 have zU:=I lW;have t0:=I BF;clear lW BF j8 jd;by_cases ch:x<3
 ·go_wp2_with fail;go_ret;exact⟨0,k1,rfl,⟨G,G⟩,G,zU.o,t0.o⟩
 ·by_cases aCN:x<10
  ·go_wp2_with fail;refine(ks.o 9 bj ay k1 zU.o G).mono ?_;rintro e aJ ⟨y,k2,rfl,⟨mi,nN,_⟩,e6,ke,yJ⟩;have az:y<9:=by rcases nN with h|h<;>omega
   have I0:=I ke;have i5:=I (t0.o.trans yJ);clear ke yJ nN;go_wp2_with fail;go_ret;exact⟨1+y,k2,rfl,⟨G,G⟩,G,I0.o,i5.o⟩
  ·by_cases aCO:x<11
   ·go_wp2_with fail;refine(ks.o 20 bj ay k1 zU.o G).mono ?_;rintro e aJ ⟨y,k2,rfl,⟨mi,nN,_⟩,e6,ke,yJ⟩;have az:y<20:=by rcases nN with h|h<;>omega
    have I0:=I ke;have i5:=I (t0.o.trans yJ);clear ke yJ nN;go_wp2_with fail;go_ret;exact⟨100*y,k2,rfl,⟨G,G⟩,G,I0.o,i5.o⟩
   ·go_wp2_with fail;refine(ks.o 2 bj ay k1 zU.o G).mono ?_;rintro e aJ ⟨y,k2,rfl,⟨mi,nN,_⟩,e6,ke,yJ⟩;have az:y<2:=by rcases nN with h|h<;>omega
    have I0:=I ke;have i5:=I (t0.o.trans yJ);clear ke yJ nN;go_wp2_with fail;go_ret;exact⟨2147483647-y,k2,rfl,⟨G,G⟩,G,I0.o,i5.o⟩
section
structure Gn (bH:O) (a' b6 p lX:Nat) (L:zT):Prop where
 p:p<bH.heap.size
 am:L.am<=bH.heap.size
 cq:bH.heap.size<=a'
 sX:a'<b6
 b2:b6<lX
def eg (bH:O) (a' b6 p lX:Nat) (L:zT) (bW bV aN:ac) (g:Raw) (k:Nat) (W:O):Prop:=
 ∃u,(u.heap.size=lX/\Kept (·=p) bH u/\pN u p L k/\V u a' #[r c 0,E T 0 0,E T 0 0,E T 0 0] 31)/\lV u b6 bW bV aN g W
section
variable {bH W W':O} {a' b6 p lX k hY:Nat} {L:zT} {bW bV aN:ac} {g:Raw}
theorem eg.sg (bJ:Gn bH a' b6 p lX L) (h:eg bH a' b6 p lX L bW bV aN g k W):pN W p L k:=by
 obtain⟨u,⟨_,_,a9,_⟩,aQ⟩:=h;have:=bJ.p;have:=bJ.am;have:=bJ.cq;have:=bJ.sX;exact a9.kept aQ.kept G (λb hb _=>by omega)
theorem eg.kept (bJ:Gn bH a' b6 p lX L) (h:eg bH a' b6 p lX L bW bV aN g k W):Kept (·=p) bH W:=by
 obtain⟨u,⟨_,K,_,_⟩,aQ⟩:=h;have:=bJ.p;have:=bJ.cq;have:=bJ.sX;have h2:=aQ.kept;exact⟨h2.os.trans K.os,h2.tape.trans K.tape,h2.output.trans K.output,cM K.size h2.size,λb hb aB=>(h2.block b (jP hb K.size) G).trans (K.block b hb aB)⟩
theorem eg.cq (bJ:Gn bH a' b6 p lX L) (h:eg bH a' b6 p lX L bW bV aN g k W):V W a' #[r c 0,E T 0 0,E T 0 0,E T 0 0] 31:=by
 obtain⟨u,⟨_,_,_,hb⟩,aQ⟩:=h;have:=bJ.sX;exact aQ.kept.aH hb G
theorem eg.aH (h:eg bH a' b6 p lX L bW bV aN g k W):V W b6 #[r c g.nodes,bW,bV,aN] 31:=by
 obtain⟨u,_,aQ⟩:=h;exact aQ.aH
theorem eg.next (bJ:Gn bH a' b6 p lX L) (h:eg bH a' b6 p lX L bW bV aN g k W) (hW:Kept (·=p) W W') (fy:pN W' p L hY):eg bH a' b6 p lX L bW bV aN g hY W':=by
 obtain⟨u,⟨aB,K,a9,hb⟩,aQ⟩:=h;have aV:=bJ.p;have bb:=bJ.am;have ch:=bJ.cq;have gR:=bJ.sX;have gl:=bJ.b2;have kf:=K.size;obtain⟨lW,ke,oR,RM⟩:=fy;obtain⟨cs,m9⟩:=al (Obj.cells #[E L.a L.l.length L.cap,r c (hY:Int)] 60 (0,0));obtain⟨ed,u5⟩:∃ed:O,ed={u with heap:=u.heap.setIfInBounds p cs}:=⟨_,rfl⟩;have b9:∀b,b≠p->ed.heap[b]? =u.heap[b]? :=λb hb=>by
  rw[u5];exact v6 (h8 hb)
 have Zi:ed.heap[p]? =A cs:=by
  rw[u5];exact Array.getElem?_setIfInBounds_self_of_lt G
 have hP:ed.heap.size=u.heap.size:=by rw[u5];simp
 have akQ:W'.heap[p]? =A cs:=by rw[m9];exact lW
 have hm:=aQ.kept.size;refine⟨ed,⟨hP.trans aB,⟨by rw[u5];exact K.os,by rw[u5];exact K.tape,by rw[u5];exact K.output,by rw[hP];exact K.size,λb hb aP=>(b9 b aP).trans (K.block b hb aP)⟩,⟨by show ed.heap[p]? =_;rw[Zi,m9],ke,oR,λi ag=>?_⟩,?_⟩,⟨?_,?_,?_⟩⟩
 ·obtain⟨b,off,ha,IZ,aw,ah⟩:=RM i ag;refine⟨b,off,ha,IZ,aw,(mO ?_).trans ah⟩;rw[b9 b IZ,hW.block b G IZ,aQ.kept.block b G G]
 ·show ed.heap[a']? =_;rw[b9 a' G];exact hb
 ·exact(hW.block b6 aQ.aH.lt G).trans aQ.aH
 ·have DG:∀{e:cY} {size:Nat} {v:ac} {n:Nat} {b7:List ac},W.ownsRow u.heap.size e size v n b7->W'.ownsRow ed.heap.size e size v n b7:=λar=>by
   rw[hP];exact fB ar λb hb=>by
    obtain⟨h1,_,h2⟩:=di ar hb;exact hW.block b h2.lt G
  exact⟨DG aQ.own.1,DG aQ.own.2.1,DG aQ.own.2.2.1,aQ.own.2.2.2⟩
 ·have k2:=aQ.kept;refine⟨by rw[u5];exact hW.os.trans k2.os,by rw[u5];exact hW.tape.trans k2.tape,by rw[u5];exact hW.output.trans k2.output,by rw[hP];exact cM k2.size hW.size,λb hb akR=>?_⟩;by_cases e:b=p
  ·subst e;rw[Zi,akQ]
  ·rw[b9 b e,hW.block b G e];exact k2.block b G akR
theorem eg.below (h:eg bH a' b6 p lX L bW bV aN g k W) (hb:ae W W'):eg bH a' b6 p lX L bW bV aN g k W':=by
 obtain⟨u,Z,aQ⟩:=h;exact⟨u,Z,aQ.below hb⟩
structure RN (a' b6 p lX b:Nat) (bW bV aN:ac):Prop where
 b2:lX<=b
 x:A b≠bW.ownBlock
 y:A b≠bV.ownBlock
 a:A b≠aN.ownBlock
 p:b≠p
 sX:b≠b6
theorem eg.apart (bJ:Gn bH a' b6 p lX L) (h:eg bH a' b6 p lX L bW bV aN g k W):RN a' b6 p lX W.heap.size bW bV aN:=by
 have aP:=(h.sg bJ).1.lt;have hb:=h.aH.lt;obtain⟨u,⟨aB,_,_,_⟩,aQ⟩:=h;have:=aQ.kept.size;have n7:∀{e:cY} {size:Nat} {v:ac} {n:Nat} {b7:List ac},W.ownsRow u.heap.size e size v n b7->A W.heap.size≠v.ownBlock:=λar e=>by
  have:=(di ar e.symm).2.choose_spec.lt;omega
 exact⟨G,n7 aQ.own.1,n7 aQ.own.2.1,n7 aQ.own.2.2.1,G,G⟩
theorem eg.wi (h:eg bH a' b6 p lX L bW bV aN g k W) (ha:RN a' b6 p lX b bW bV aN):eg bH a' b6 p lX L bW bV aN g k (W.setCell (B b i) v):=by
 obtain⟨u,Z,aQ⟩:=h;have aB:=Z.1;have h1:=ha.b2;have DG:∀{e:cY} {size:Nat} {x:ac} {n:Nat} {b7:List ac},W.ownsRow u.heap.size e size x n b7->A b≠x.ownBlock->(W.setCell (B b i) v).ownsRow u.heap.size e size x n b7:=λar ak=>
  fB ar λR ah=>d7 _ _ _ _ (λe=>ak (by rw[ah];exact congrArg A e.symm))
 have K:=aQ.kept;refine⟨u,Z,⟨aQ.aH.gr (B b i) v (h8 ha.sX),⟨DG aQ.own.1 ha.x,DG aQ.own.2.1 ha.y,DG aQ.own.2.2.1 ha.a,aQ.own.2.2.2⟩,⟨K.os,K.tape,K.output,by simpa [World.setCell] using K.size,λR ah b9=>(d7 _ _ _ _ (λe:R=b=>by omega)).trans (K.block R ah b9)⟩⟩⟩
theorem eg.new {nodes:Int} {aJ:O} (K:Kept (·=p) bH aJ) (a9:pN aJ p L k) (hb:V aJ a' #[r c 0,E T 0 0,E T 0 0,E T 0 0] 31):
 eg bH a' aJ.heap.size p (aJ.heap.size+1) L (E T 0 0) (E T 0 0) (E T 0 0) ⟨nodes,[],[],[]⟩ k (aJ.alloc (an #[r c nodes,E T 0 0,E T 0 0,E T 0 0] 31)):=by
 have mT:ae aJ (aJ.alloc (an #[r c nodes,E T 0 0,E T 0 0,E T 0 0] 31)):=fb;refine⟨_,⟨a3,K.alloc _,a9.below mT,hb.alloc _⟩,⟨V.new _ _ _ _,⟨oG _ _ _ _,oG _ _ _ _,oG _ _ _ _,λb hb=>by cases hb⟩,Kept.refl _ _⟩⟩
end
end
theorem Zj {x:Int} (h:∀y∈X,oP y) (ak:oP x):∀y∈X++[x],oP y:=λy az=>by
 rcases fJ.1 az with fx|fx
 ·exact h y fx
 ·rw[f2.1 fx];exact ak
theorem Zk {x:Int} (h:∀y∈X,oP y) (ak:oP x):∀y∈X.set i x,oP y:=λy az=>by
 rcases QA az with fx|fx
 ·exact h y fx
 ·rw[fx];exact ak
theorem RO {n:Int} {Q:List bd} {a:bd} (h:∀y∈Q,wd n y) (ak:wd n a):∀y∈Q++[a],wd n y:=λy az=>by
 rcases fJ.1 az with fx|fx
 ·exact h y fx
 ·rw[f2.1 fx];exact ak
theorem akS (p:Nat) (L:zT) (w:O) (h:pN w p L 0) (dC:L.am<=w.heap.size):
 aE aa 13 #[J p 0] w λe D=>∃v g,e=au v/\qT w.heap.size D v g/\g.e2/\(g.nodes<=12/\g.arcs.length<=84)/\Kept (·=p) w D:=by
 have aP:=h.1.lt;have ks:=I (λn (aC:n<=1000000) (u:O) (hY:Nat) (a9:pN u p L hY) (eQ:hY<1000000)=>Zh p L hY n u a9 eQ aC);have BG:=I (λ(u:O) (hY:Nat) (a9:pN u p L hY) (eQ:hY+1<1000000)=>akP p L hY u a9 eQ);obtain⟨a',eB⟩:=al w.heap.size;obtain⟨ay,bA⟩:=al (w.alloc (an #[r c 0,E T 0 0,E T 0 0,E T 0 0] 31));have aX:=dx bA;have qW:=eK bA eB;have zU:=I (h.below aX);have ft:=I aX;have i5:=I qW;have cX:=I bA;have dT:=I eB;clear bA eB;go_in;go_wp2_with fail;rw[<-cX.o,<-dT.o];refine(ks.o 12 bj ay 0 zU.o G).mono ?_;rintro e aJ ⟨x,k1,rfl,⟨j7,j8,_⟩,pa,lW,BF⟩;obtain⟨N,b1⟩:∃N:Nat,(N:Int)=1+x:=⟨(1+x).toNat,G⟩;have Zl:1<=N/\N<=12:=by rcases j8 with h|h<;>omega
 have f4:IntKind.i64.wrap (1+x)=(N:Int):=by rw[ll _ G G];omega
 obtain⟨b6,sa⟩:=al aJ.heap.size;obtain⟨ba,cg⟩:=al (aJ.alloc (an #[r c N,E T 0 0,E T 0 0,E T 0 0] 31));have akT:=dT.o;have sY:ay.heap.size=w.heap.size+1:=by rw[cX.o];simp
 have akU:=BF.size;have bJ:Gn w a' b6 p (b6+1) L:=⟨aP,dC,G,G,G⟩;have Zm:Kept (·=p) w aJ:=(Kept.bg ft.o).trans BF;have qm:eg w a' b6 p (b6+1) L (E T 0 0) (E T 0 0) (E T 0 0) ⟨(N:Nat),[],[],[]⟩ k1 ba:=by
  rw[cg,sa];exact eg.new Zm lW (BF.aH i5.o (bI aP))
 have cS:=I bJ;have lY:=I qm;have h4:=I cg;have Zn:=I sa;have c9:=I b1;have hle:w.heap.size<=b6+1:=G;have BH:=I hle;clear BF lW Zm bJ qm cg sa b1 i5 zU akT sY akU hle j8;go_wp2_with fail;rw[<-h4.o,<-Zn.o];go_loopw [4] (λi wr=>∃(j k:Nat) (bW bV:ac) (X Y:List Int),j<=N/\i=r c j/\aM ((X.length=j/\Y.length=j/\k<=1+2*j/\(∀x∈X,oP x)/\∀y∈Y,oP y)/\eg w a' b6 p (b6+1) L bW bV (E T 0 0) ⟨(N:Nat),X,Y,[]⟩ k wr)) (λi _=>N-(cu i).toNat)
 ·exact⟨0,k1,_,_,[],[],G,rfl,I ⟨⟨rfl,rfl,G,a3,a3⟩,lY.o⟩⟩
 obtain⟨j,k,bW,bV,X,Y,av,rfl,hrel⟩:=hrel;obtain⟨⟨zV,zW,K,MA,sU⟩,mU⟩:=hrel.o;have sZ:=(eg.aH mU).cell 0;have ir:=(eg.aH mU).cell 1;have iO:=(eg.aH mU).cell 2;change wr.cell? (B b6 0)=A (r c N) at sZ;change wr.cell? (B b6 1)=A bW at ir;change wr.cell? (B b6 2)=A bV at iO;by_cases a0:j<N
 case pos=>
  have ie:(j:Int)<N:=G;have e7:=db zV MA;have ju:=db zW sU;have s0:=I mU;go_wp2_with fail;have mU:=s0.o;refine jQ (λD=>D.cell? (B b6 1)=A bW) 8 rfl ?_;change ej _ _ _ _ _ _ _ 9 _ _ wr.drew;have ax:wr.drew.cell? (B b6 1)=A bW:=ir;refine ct 0 (J b6 1) (λ_=>ax) ?_;refine lH 1 bW ax ?_ (az:=λw cb=>⟨by rfl,by obtain jI:=cb;go_simp⟩);refine ct 2 (J p 0) (λ_=>ax) ?_;have mV:=(eg.below mU (bx _ wr).drew).sg cS.o;refine dJ 3 ?_;refine e3 35 #[J p 0,r c 9] (ks.o 9 bj wr.drew _ mV G) ?_;rintro e d9 ⟨x,hY,rfl,⟨j7,j8,_⟩,eQ,fy,mj⟩;refine⟨_,rfl,?_⟩;have I1:=eg.next cS.o (eg.below mU (bx _ wr).drew) mj fy;have yK:x<9:=by rcases j8 with h|h<;>omega
  obtain⟨y,az⟩:=al (x-3);have QS:IntKind.i64.wrap (x-3)=y:=by rw[az,Dk];omega
  have DH:oP y:=by unfold oP;omega
  clear az;obtain⟨u,Z,bS⟩:=I1;obtain⟨iV,lg⟩:=al (d9.alloc (an #[r c y] 2));have kO:=dx lg;have g5:V iV d9.heap.size (ec y).toArray 2:=by rw[lg];exact V.new _ _ _ _
  obtain⟨v1,fK,t1,⟨a1,b2,aV,h5⟩,aX,I2,j6⟩:=(bS.below kO).ajK g5 (by dsimp only;omega);subst h5;have jI:d9.cell? (B b6 1)=A bW:=bS.aH.cell 1;have oL:iV.cell? (B b6 1)=A bW:=(bS.below kO).aH.cell 1;have oK:fK.cell? (B b6 1)=A bW:=aX.cell 1;have Zo:=aX.free 1 (hD (cQ _));have mU:eg w a' b6 p (b6+1) L _ _ _ _ _ _:=⟨u,Z,j6⟩;have DI:=I mU;have DJ:=I lg;clear lg;refine⟨λ_=>jI,?_⟩;simp only[bN,bM,bO];refine ct 4 (r c y) (λ_=>jI) ?_;refine kr 5 (E (A (B d9.heap.size 0)) 1 1) iV ?_ (he:=by rw[DJ.o];go_simp) (ak:=λ_=>oL);refine dJ 6 ?_;refine tP rfl rfl rfl (by rfl) _ _ _ _ rfl t1 ?_;refine⟨λ_=>oK,?_⟩;simp only[bN,bM,bO];refine ct 7 (J b6 1) (λ_=>oK) ?_;refine jG 8 (fK.setCell (B b6 1) (E a1 b2 aV)) ?_;refine fc ?_;clear QS;obtain⟨dI,hW⟩:=al (fK.setCell (B b6 1) (E a1 b2 aV));have s0:=DI.o;rw[<-hW] at s0⊢;clear hW;have M3:=I (Zj e7.o.2 DH);have akV:(X++[y]).length=j+1:=by rw[gW,e7.o.1];rfl
  have iO:=(eg.aH s0).cell 2;change dI.cell? (B b6 2)=A bV at iO;obtain⟨jJ,akW⟩:∃jJ,jJ=X++[y]:=⟨_,rfl⟩;go_wp2_with fail;have mU:=s0;refine jQ (λD=>D.cell? (B b6 2)=A bV) 7 rfl ?_;change ej _ _ _ _ _ _ _ 8 _ _ dI.drew;have ax:dI.drew.cell? (B b6 2)=A bV:=iO;refine ct 0 (J b6 2) (λ_=>ax) ?_;refine lH 1 bV ax ?_ (az:=λw cb=>⟨by rfl,by obtain jI:=cb;go_simp⟩);refine ct 2 (J p 0) (λ_=>ax) ?_;have mV:=(eg.below mU (bx _ dI).drew).sg cS.o;refine dJ 3 ?_;refine e3 35 #[J p 0,r c 7] (ks.o 7 bj dI.drew _ mV G) ?_;rintro e ls ⟨x,hY,rfl,⟨j7,j8,_⟩,eQ,fy,mj⟩;refine⟨_,rfl,?_⟩;have I1:=eg.next cS.o (eg.below mU (bx _ dI).drew) mj fy;have yK:x<7:=by rcases j8 with h|h<;>omega
  obtain⟨y,az⟩:=al x;subst az;have DH:oP y:=by unfold oP;omega
  obtain⟨u,Z,bS⟩:=I1;obtain⟨iV,lg⟩:=al (ls.alloc (an #[r c y] 2));have kO:=dx lg;have g5:V iV ls.heap.size (ec y).toArray 2:=by rw[lg];exact V.new _ _ _ _
  obtain⟨v1,fQ,ml,⟨a1,b2,aV,h5⟩,aX,I2,j6⟩:=(bS.below kO).ajL g5 (by dsimp only;omega);subst h5;have jI:ls.cell? (B b6 2)=A bV:=bS.aH.cell 2;have oL:iV.cell? (B b6 2)=A bV:=(bS.below kO).aH.cell 2;have oK:fQ.cell? (B b6 2)=A bV:=aX.cell 2;have Zo:=aX.free 2 (hD (cQ _));have DI:eg w a' b6 p (b6+1) L _ _ _ _ _ _:=⟨u,Z,j6⟩;have DJ:=I lg;clear lg;refine⟨λ_=>jI,?_⟩;simp only[bN,bM,bO];refine kr 4 (E (A (B ls.heap.size 0)) 1 1) iV ?_ (he:=by rw[DJ.o];go_simp) (ak:=λ_=>oL);refine dJ 5 ?_;refine tP rfl rfl rfl (by rfl) _ _ _ _ rfl ml ?_;refine⟨λ_=>oK,?_⟩;simp only[bN,bM,bO];refine ct 6 (J b6 2) (λ_=>oK) ?_;refine jG 7 (fQ.setCell (B b6 2) (E a1 b2 aV)) ?_;refine fc ?_;obtain⟨aCP,hW⟩:=al (fQ.setCell (B b6 2) (E a1 b2 aV));have mU:=DI;rw[<-hW] at mU⊢;clear hW;have akX:=I (Zj ju.o.2 DH);go_wp2_with fail;go_roundw
  ·exact⟨j+1,_,_,_,_,_,G,by go_num,I ⟨⟨akV,by rw[gW,ju.o.1];rfl,G,M3.o,akX.o⟩,mU⟩⟩
  ·simp[cu];omega
 obtain rfl:N=j:=G;have mV:=eg.sg cS.o mU;have e7:=db zV MA;have ju:=db zW sU;have s0:=I mU;have wj:=I mV;clear zV zW
 go_upto_region 7 with fail
 go_upto_if 37 with(go_at_call 35;refine(ks.o 9 bj wr k wj.o G).mono ?_;rintro e bi ⟨x,k4,rfl,⟨j7,j8,DK⟩,lh,RM,M4⟩)
 have Zp:=eg.next cS.o s0.o M4 RM;have s2:=I (show k4<=26 by omega)
 go_cut [] from 10 (λyL=>∃(k:Nat) (bW bV:ac) (X Y:List Int),aM ((X.length=N/\Y.length=N/\k<=26/\(∀x∈X,oP x)/\∀y∈Y,oP y)/\eg w a' b6 p (b6+1) L bW bV (E T 0 0) ⟨(N:Nat),X,Y,[]⟩ k yL))
 case first=>
  by_cases ak:x=0
  ·subst ak;obtain⟨u,Z,bS⟩:=Zp;have mH:=qk bS.own.1;have nO:=qk bS.own.2.1;dsimp only at mH nO;rw[e7.o.1] at mH;rw[ju.o.1] at nO;obtain⟨cP,cC,rfl,RP⟩:=mH;obtain⟨eR,ey,rfl,RQ⟩:=nO;obtain⟨kt,rfl⟩:=RP G;obtain⟨oS,rfl⟩:=RQ G;obtain⟨m,hm⟩:∃m,N=m+1:=⟨N-1,G⟩;have X1:IntKind.i64.wrap ((N:Int)-1)=((m:Nat):Int):=by rw[ll _ G G];omega
   have Zq:(m:Int)<N:=G;have lu:=ew m;have aCQ:(0:Int)<N:=G;have j6:=bS.Y7 e7.o.1 0 (by dsimp only;rw[e7.o.1];omega) (-2147483648);have xu:=j6.Y8 ju.o.1 m (by dsimp only;rw[ju.o.1];omega) 2147483647;have ir:=bS.aH.cell 1;change bi.cell? (B b6 1)=A (E (A (B kt 0)) N cC) at ir;have iO:=j6.aH.cell 2;have sZ:=j6.aH.cell 0;change(bi.setCell (B kt 0) (r c (-2147483648))).cell? (B b6 2)=A (E (A (B oS 0)) N ey) at iO;change(bi.setCell (B kt 0) (r c (-2147483648))).cell? (B b6 0)=A (r c N) at sZ;obtain⟨_,_,DL⟩:=di bS.own.1 (g:=kt) rfl;obtain⟨_,_,I3⟩:=di j6.own.2.1 (g:=oS) rfl;have akY:=DL.free 0 (hD (cQ _));have aCR:=I3.free m (hD (cQ _));obtain⟨jF,_,MA⟩:∃v,True/\bi.cell? (B kt 0)=A v:=by
    have akZ:cR bi (E (A (B kt 0)) N cC) X:=jv e7.o.1 (by have h:=bS.own.1;dsimp only at h;rw[e7.o.1] at h;exact h);obtain⟨b,o,e,ah⟩:=akZ.at 0 (by rw[e7.o.1];omega);obtain⟨rfl,rfl⟩:kt=b/\0=o:=by simpa using e
    exact⟨_,trivial,ah⟩
   obtain⟨lU,_,sU⟩:∃v,True/\(bi.setCell (B kt 0) (r c (-2147483648))).cell? (B oS m)=A v:=by
    have ak0:cR (bi.setCell (B kt 0) (r c (-2147483648))) (E (A (B oS 0)) N ey) Y:=jv ju.o.1 (by have h:=j6.own.2.1;dsimp only at h;rw[ju.o.1] at h;exact h);obtain⟨b,o,e,ah⟩:=ak0.at m (by rw[ju.o.1];omega);obtain⟨rfl,rfl⟩:oS=b/\0=o:=by simpa using e
    rw[jC] at ah;exact⟨_,trivial,ah⟩
   clear hm;go_wp2_with fail
   go_meet
   ·refine⟨k4,_,_,_,_,I ⟨⟨?_,?_,s2.o,Zk e7.o.2 ?_,Zk ju.o.2 ?_⟩,⟨u,Z,xu⟩⟩⟩
    ·rw[gN];exact e7.o.1
    ·rw[gN];exact ju.o.1
    ·unfold oP;omega
    ·unfold oP;omega
  ·have RR:(x==0)=ao:=by simpa using ak
   go_wp2_with fail
   go_meet
   ·exact⟨k4,_,_,_,_,I ⟨⟨e7.o.1,ju.o.1,s2.o,e7.o.2,ju.o.2⟩,Zp⟩⟩
 obtain⟨k,bW,bV,X,Y,hrel⟩:=hcut;have e7:=I hrel.o.1;have DM:=hrel.o.2;have wj:=DM.sg cS.o;have sZ:=(eg.aH DM).cell 0;change wc.cell? (B b6 0)=A (r c N) at sZ;obtain⟨be,b3⟩:∃be:Int,be=3*(N:Int):=⟨_,rfl⟩;have xe:IntKind.i64.wrap (3*(N:Int))=be:=by rw[ll _ G G];omega
 obtain⟨M,dU⟩:∃M:Int,M=be+1:=⟨_,rfl⟩;have Be:IntKind.i64.wrap (be+1)=M:=by rw[ll _ G G];omega
 have ak1:M<=37/\0<=M:=G;have s0:=I DM;clear b3 dU;go_wp2_with fail;have K:=e7.o.2.2.1;refine(ks.o M G wc k wj G).mono ?_;rintro e bD ⟨y,k5,rfl,⟨mi,nN,_⟩,qn,Zr,ak2⟩;have zX:y<=36:=by rcases nN with h|h<;>omega
 have ak3:=eg.next cS.o s0.o ak2 Zr;clear xe Be;go_wp2_with fail;refine(ks.o 3 bj bD k5 Zr G).mono ?_;rintro e cG ⟨z,k6,rfl,⟨fL,gi,_⟩,Gp,RS,ak4⟩;have ak5:=eg.next cS.o ak3 ak4 RS
 go_upto_block 2 with fail
 generalize decide (0<z)=ring;have ak6:k6<=28:=G
 go_cut [] from 10 (λyL=>∃(k:Nat) (aN:ac) (Q:List bd),aM ((Q.length<=N/\k<=52/\∀a∈Q,wd N a)/\eg w a' b6 p (b6+1) L bW bV aN ⟨(N:Nat),X,Y,Q⟩ k yL))
 case first=>
  go_wp2_with fail;go_loopw [7] (λi wr=>∃(j k:Nat) (aN:ac) (Q:List bd),j<=N/\i=r c j/\aM ((Q.length=j/\k<=28+2*j/\∀a∈Q,wd N a)/\eg w a' b6 p (b6+1) L bW bV aN ⟨(N:Nat),X,Y,Q⟩ k wr)) (λi _=>N-(cu i).toNat)
  ·exact⟨0,k6,_,[],G,rfl,I ⟨⟨rfl,bI ak6,a3⟩,ak5⟩⟩
  obtain⟨j,k,aN,Q,av,rfl,hrel⟩:=hrel;obtain⟨⟨nk,K,BI⟩,s0⟩:=hrel.o;have sZ:=(eg.aH s0).cell 0;have li:=(eg.aH s0).cell 3;change wr.cell? (B b6 0)=A (r c N) at sZ;change wr.cell? (B b6 3)=A aN at li;have dM:=db nk BI;clear nk;by_cases a0:j<N
  case neg=>
   go_wp2_with fail
   go_meet
   ·exact⟨k,_,_,I ⟨⟨by rw[dM.o.1];omega,G,dM.o.2⟩,s0⟩⟩
  have ie:(j:Int)<N:=G;cases ring
  case false=>
   go_wp2_with fail
   go_meet
   ·exact⟨k,_,_,I ⟨⟨by rw[dM.o.1];omega,G,dM.o.2⟩,s0⟩⟩
  go_wp2_with fail;have mU:=s0;obtain⟨q,aO⟩:∃q:Int,q=(j:Int)+1:=⟨_,rfl⟩;have g':IntKind.i64.wrap ((j:Int)+1)=q:=by rw[ll _ G G];omega
  have zY:0<=q:=G;obtain⟨m,hm⟩:∃m:Int,m=q%(N:Int):=⟨_,rfl⟩;have Gq:0<=m/\m<(N:Int):=by rw[hm];exact⟨Ij q G,FN q G⟩
  have r0:q.tmod (N:Int)=m:=by rw[hm,Dl zY]
  have ak7:q%(N:Int)=m:=hm.symm;have fU:IntKind.i64.wrap m=m:=ll _ Gq.1 G;have ak8:¬(N:Int)=0:=G;have aCS:¬N=0:=G;have DN:((N:Int)==0)=ao:=by simpa using ak8
  clear hm aO;refine jQ (λD=>D.cell? (B b6 3)=A aN/\D.cell? (B b6 0)=A (r c N)) 14 rfl ?_;change ej _ _ _ _ _ _ _ 15 _ _ wr.drew;have ax:wr.drew.cell? (B b6 3)=A aN/\wr.drew.cell? (B b6 0)=A (r c N):=⟨li,sZ⟩;refine ct 0 (J b6 3) (λ_=>ax) ?_;refine lH 1 aN ax ?_;refine ct 2 (r c j) (λ_=>ax) ?_;refine ct 3 (r c j) (λ_=>ax) ?_;refine ct 4 (r c q) (λ_=>ax) ?_;refine ct 5 (J b6 0) (λ_=>ax) ?_;refine lH 6 (r c N) ax ?_;refine ct 7 (r c m) (λ_=>ax) ?_;refine ct 8 (J p 0) (λ_=>ax) ?_;have mV:=(eg.below mU (bx _ wr).drew).sg cS.o;refine dJ 9 ?_;refine e3 36 #[J p 0] (BG.o wr.drew _ mV G) ?_;rintro e d9 ⟨x,hY,rfl,⟨j7,j8⟩,eQ,fy,mj⟩;refine⟨_,rfl,?_⟩;have I1:=eg.next cS.o (eg.below mU (bx _ wr).drew) mj fy;have Gr:wd (N:Int) ((j:Int),m,x):=⟨⟨by show(0:Int)<=j;omega,by show(j:Int)<_;omega⟩,Gq,⟨j7,j8⟩⟩;obtain⟨u,Z,bS⟩:=I1;obtain⟨iV,lg⟩:=al (d9.alloc (an #[r c (j:Int),r c m,r c x] 57));have kO:=dx lg;have g5:V iV d9.heap.size (nL (((j:Int),m,x):bd)).toArray 57:=by rw[lg];exact V.new _ _ _ _
  obtain⟨v1,fK,ml,⟨a1,b2,aV,h5⟩,aX,I2,j6⟩:=(bS.below kO).Rr g5 (by dsimp only;rw[dM.o.1];omega);subst h5;have jI:d9.cell? (B b6 3)=A aN/\d9.cell? (B b6 0)=A (r c N):=⟨bS.aH.cell 3,bS.aH.cell 0⟩;have oL:iV.cell? (B b6 3)=A aN/\iV.cell? (B b6 0)=A (r c N):=⟨(bS.below kO).aH.cell 3,(bS.below kO).aH.cell 0⟩;have oK:fK.cell? (B b6 3)=A aN/\fK.cell? (B b6 0)=A (r c N):=⟨aX.cell 3,aX.cell 0⟩;have Zo:=aX.free 3 (hD (cQ _));have Zs:=oK.1;have DI:eg w a' b6 p (b6+1) L _ _ _ _ _ _:=⟨u,Z,j6⟩;have DJ:=I lg;clear lg;refine⟨λ_=>jI,?_⟩;simp only[bN,bM,bO];refine ct 10 (aZ #[r c (j:Int),r c m,r c x]) (λ_=>jI) ?_;refine kr 11 (E (A (B d9.heap.size 0)) 1 1) iV ?_ (he:=by rw[DJ.o];go_simp) (ak:=λ_=>oL);refine dJ 12 ?_;refine tP rfl rfl rfl (by rfl) _ _ _ _ rfl ml ?_;refine⟨λ_=>oK,?_⟩;simp only[bN,bM,bO];refine ct 13 (J b6 3) (λ_=>oK) ?_;refine jG 14 (fK.setCell (B b6 3) (E a1 b2 aV)) ?_;refine fc ?_;obtain⟨dI,hW⟩:=al (fK.setCell (B b6 3) (E a1 b2 aV));have mU:=DI;rw[<-hW] at mU⊢;clear hW;clear g' r0 ak7 fU;have DO:=I (RO dM.o.2 Gr);go_wp2_with fail;go_roundw
  ·exact⟨j+1,_,_,_,G,by go_num,I ⟨⟨by rw[gW,dM.o.1];rfl,G,DO.o⟩,mU⟩⟩
  ·simp[cu];omega
 obtain⟨k,aN,Q,nr⟩:=hcut;obtain⟨iF,rfl⟩:∃iF:Nat,y=(iF:Int):=⟨y.toNat,G⟩;have aCT:iF<=36:=G;go_wp2_with fail;go_loopw [8] (λi wr=>∃(j k:Nat) (aN:ac) (Q:List bd),j<=iF/\i=r c j/\aM ((Q.length<=N+2*j/\k<=52+5*j/\∀a∈Q,wd N a)/\eg w a' b6 p (b6+1) L bW bV aN ⟨(N:Nat),X,Y,Q⟩ k wr)) (λi _=>iF-(cu i).toNat)
 ·exact⟨0,k,_,Q,G,rfl,I ⟨⟨bI nr.o.1.1,bI nr.o.1.2.1,nr.o.1.2.2⟩,nr.o.2⟩⟩
 obtain⟨j,k,aN,Q,av,rfl,hrel⟩:=hrel;obtain⟨⟨nk,K,BI⟩,mU⟩:=hrel.o;have dM:=db nk BI;by_cases a0:j<iF
 case pos=>
  have ie:(j:Int)<iF:=G
  go_upto_region 19 with fail
  go_cut [9] from 79 to 115 (λDP yL=>∃(ci:Nat) (c0 cI dB:Int) (hY:Nat),DP=J ci 0/\aM (wd (N:Int) (c0,cI,dB)/\hY<=k+4/\eg w a' b6 p (b6+1) L bW bV aN ⟨(N:Nat),X,Y,Q⟩ hY yL/\V yL ci #[r c c0,r c cI,r c dB] 57 (0,0)/\RN a' b6 p (b6+1) ci bW bV aN))
  case first=>
   have e6:k<600:=G;have sZ:=(eg.aH mU).cell 0;change wr.cell? (B b6 0)=A (r c N) at sZ;go_wp2_with fail;refine jQ (λD=>D.cell? (B b6 0)=A (r c N)) 12 rfl ?_;change ej _ _ _ _ _ _ _ 13 _ _ wr.drew;have ax:wr.drew.cell? (B b6 0)=A (r c N):=sZ;refine ct 0 (J p 0) (λ_=>ax) ?_;refine ct 1 (J b6 0) (λ_=>ax) ?_;refine lH 2 (r c N) ax ?_ (az:=λw cb=>⟨by rfl,by obtain jI:=cb;go_simp⟩);refine ct 4 (J p 0) (λ_=>ax) ?_;refine ct 5 (J b6 0) (λ_=>ax) ?_;refine lH 6 (r c N) ax ?_ (az:=λw cb=>⟨by rfl,by obtain jI:=cb;go_simp⟩);refine ct 8 (J p 0) (λ_=>ax) ?_;obtain⟨bH,nP⟩:=al wr.drew;have tV:=I (eg.below mU (bx _ wr).drew);obtain⟨k0,jl⟩:=al k;rw[<-jl] at tV;have aCU:k0<=k:=G;clear jl;rw[<-nP] at ax tV⊢;clear nP;refine Bk (i:=3) (k:=11) bq ?_ ?_
   ·have mV:=eg.sg cS.o tV.o;refine e3 35 #[J p 0,r c N] (ks.o (N:Int) G bH _ mV G) ?_;rintro e ay ⟨c0,k1,rfl,⟨j7,j8,_⟩,eQ,fy,mj⟩;have I4:0<=c0/\c0<(N:Int):=by rcases j8 with h|h<;>omega
    refine⟨_,rfl,?_⟩;have u6:=I (eg.next cS.o tV.o mj fy);have ax:ay.cell? (B b6 0)=A (r c N):=(eg.aH u6.o).cell 0;have BF:k1<=k+1:=G;refine⟨λ_=>ax,?_⟩;simp only[bN,bM,bO];refine Bk (i:=7) (k:=11) bq ?_ ?_
    ·have mV:=eg.sg cS.o u6.o;refine e3 35 #[J p 0,r c N] (ks.o (N:Int) G ay _ mV G) ?_;rintro e aJ ⟨cI,k2,rfl,⟨j7,j8,_⟩,eQ,fy,mj⟩;have Gs:0<=cI/\cI<(N:Int):=by rcases j8 with h|h<;>omega
     refine⟨_,rfl,?_⟩;have qX:=I (eg.next cS.o u6.o mj fy);have ax:aJ.cell? (B b6 0)=A (r c N):=(eg.aH qX.o).cell 0;have yJ:k2<=k+2:=G;refine⟨λ_=>ax,?_⟩;simp only[bN,bM,bO];refine Bk (i:=9) (k:=11) bq ?_ ?_
     ·have mV:=eg.sg cS.o qX.o;refine e3 36 #[J p 0] (BG.o aJ _ mV G) ?_;rintro e ba ⟨dB,k3,rfl,DQ,eQ,fy,mj⟩;refine⟨_,rfl,?_⟩;have lY:=I (eg.next cS.o qX.o mj fy);have ax:ba.cell? (B b6 0)=A (r c N):=(eg.aH lY.o).cell 0;have Zt:k3<=k+4:=G;refine⟨λ_=>ax,?_⟩;simp only[bN,bM,bO];refine ct 10 (aZ #[r c c0,r c cI,r c dB]) (λ_=>ax) ?_;refine dJ 11 ?_;obtain⟨ci,g5⟩:=al ba.heap.size;obtain⟨bi,bU⟩:=al (ba.alloc (an #[r c 0,r c 0,r c 0] 57));refine gD (J ci 0) bi ?_ (he:=by rw[bU,g5];go_simp);have hb:=dx bU;have g6:=I (show V bi ci #[r c 0,r c 0,r c 0] 57 (0,0) by rw[bU,g5];exact V.new _ _ _ _);have j9:=I (eg.apart cS.o lY.o);rw[<-g5] at j9;have jK:=I (eg.below lY.o hb);obtain⟨k4,n8⟩:=al k3;rw[<-n8] at jK;have ax:bi.cell? (B b6 0)=A (r c N):=(eg.aH jK.o).cell 0;clear bU g5;refine⟨λ_=>ax,?_⟩;simp only[bN,bM,bO];have bS:=((eg.wi (i:=0) (v:=r c c0) jK.o j9.o).wi (i:=1) (v:=r c cI) j9.o).wi (i:=2) (v:=r c dB) j9.o;have cd:=((g6.o.set 0 (r c c0)).set 1 (r c cI)).set 2 (r c dB);have sh:=λi=>g6.o.free i (hD (cQ _));have j5:=sh 0;have f6:=sh 1;have eF:=sh 2;have e0:=g6.o.cell 0;have br:=g6.o.cell 1;have a4:=g6.o.cell 2;change bi.cell? (B ci 0)=A (r c 0) at e0;change bi.cell? (B ci 1)=A (r c 0) at br;change bi.cell? (B ci 2)=A (r c 0) at a4;refine jG 12 (((bi.setCell (B ci 0) (r c c0)).setCell (B ci 1) (r c cI)).setCell (B ci 2) (r c dB)) ?_;refine fc ?_;go_wp2_with fail
      go_meet
      ·exact⟨ci,c0,cI,dB,_,rfl,I ⟨⟨I4,Gs,DQ⟩,G,bS,cd,j9.o⟩⟩
     ·obtain⟨ci,g5⟩:=al aJ.heap.size;obtain⟨ba,bU⟩:=al (aJ.alloc (an #[r c 0,r c 0,r c 0] 57));refine gD (J ci 0) ba ?_ (he:=by rw[bU,g5];go_simp);have hb:=dx bU;have dh:=I (show V ba ci #[r c 0,r c 0,r c 0] 57 (0,0) by rw[bU,g5];exact V.new _ _ _ _);have j9:=I (eg.apart cS.o qX.o);rw[<-g5] at j9;have lY:=I (eg.below qX.o hb);obtain⟨k3,n8⟩:=al k2;rw[<-n8] at lY;have ax:ba.cell? (B b6 0)=A (r c N):=(eg.aH lY.o).cell 0;clear bU g5;refine⟨λ_=>ax,?_⟩;simp only[bN,bM,bO];refine dJ 9 ?_;have mV:=eg.sg cS.o lY.o;refine e3 36 #[J p 0] (BG.o ba _ mV G) ?_;rintro e bi ⟨dB,k4,rfl,DQ,eQ,fy,mj⟩;refine⟨_,rfl,?_⟩;have jK:=I (eg.next cS.o lY.o mj fy);have g6:=I (mj.aH dh.o j9.o.p);have ax:bi.cell? (B b6 0)=A (r c N):=(eg.aH jK.o).cell 0;have M4:k4<=k+4:=G;refine⟨λ_=>ax,?_⟩;simp only[bN,bM,bO];refine ct 10 (aZ #[r c c0,r c cI,r c dB]) (λ_=>ax) ?_;have bS:=((eg.wi (i:=0) (v:=r c c0) jK.o j9.o).wi (i:=1) (v:=r c cI) j9.o).wi (i:=2) (v:=r c dB) j9.o;have cd:=((g6.o.set 0 (r c c0)).set 1 (r c cI)).set 2 (r c dB);have sh:=λi=>g6.o.free i (hD (cQ _));have j5:=sh 0;have f6:=sh 1;have eF:=sh 2;have e0:=g6.o.cell 0;have br:=g6.o.cell 1;have a4:=g6.o.cell 2;change bi.cell? (B ci 0)=A (r c 0) at e0;change bi.cell? (B ci 1)=A (r c 0) at br;change bi.cell? (B ci 2)=A (r c 0) at a4;refine jG 12 (((bi.setCell (B ci 0) (r c c0)).setCell (B ci 1) (r c cI)).setCell (B ci 2) (r c dB)) ?_;refine fc ?_;go_wp2_with fail
      go_meet
      ·exact⟨ci,c0,cI,dB,_,rfl,I ⟨⟨I4,Gs,DQ⟩,G,bS,cd,j9.o⟩⟩
    ·obtain⟨ci,g5⟩:=al ay.heap.size;obtain⟨aJ,bU⟩:=al (ay.alloc (an #[r c 0,r c 0,r c 0] 57));refine gD (J ci 0) aJ ?_ (he:=by rw[bU,g5];go_simp);have hb:=dx bU;have dT:=I (show V aJ ci #[r c 0,r c 0,r c 0] 57 (0,0) by rw[bU,g5];exact V.new _ _ _ _);have j9:=I (eg.apart cS.o u6.o);rw[<-g5] at j9;have qX:=I (eg.below u6.o hb);obtain⟨k2,n8⟩:=al k1;rw[<-n8] at qX;have ax:aJ.cell? (B b6 0)=A (r c N):=(eg.aH qX.o).cell 0;clear bU g5;refine⟨λ_=>ax,?_⟩;simp only[bN,bM,bO];refine dJ 7 ?_;have mV:=eg.sg cS.o qX.o;refine e3 35 #[J p 0,r c N] (ks.o (N:Int) G aJ _ mV G) ?_;rintro e ba ⟨cI,k3,rfl,⟨j7,j8,_⟩,eQ,fy,mj⟩;have Gs:0<=cI/\cI<(N:Int):=by rcases j8 with h|h<;>omega
     refine⟨_,rfl,?_⟩;have lY:=I (eg.next cS.o qX.o mj fy);have dh:=I (mj.aH dT.o j9.o.p);have ax:ba.cell? (B b6 0)=A (r c N):=(eg.aH lY.o).cell 0;have Zt:k3<=k+2:=G;refine⟨λ_=>ax,?_⟩;simp only[bN,bM,bO];refine dJ 9 ?_;have mV:=eg.sg cS.o lY.o;refine e3 36 #[J p 0] (BG.o ba _ mV G) ?_;rintro e bi ⟨dB,k4,rfl,DQ,eQ,fy,mj⟩;refine⟨_,rfl,?_⟩;have jK:=I (eg.next cS.o lY.o mj fy);have g6:=I (mj.aH dh.o j9.o.p);have ax:bi.cell? (B b6 0)=A (r c N):=(eg.aH jK.o).cell 0;have M4:k4<=k+4:=G;refine⟨λ_=>ax,?_⟩;simp only[bN,bM,bO];refine ct 10 (aZ #[r c c0,r c cI,r c dB]) (λ_=>ax) ?_;have bS:=((eg.wi (i:=0) (v:=r c c0) jK.o j9.o).wi (i:=1) (v:=r c cI) j9.o).wi (i:=2) (v:=r c dB) j9.o;have cd:=((g6.o.set 0 (r c c0)).set 1 (r c cI)).set 2 (r c dB);have sh:=λi=>g6.o.free i (hD (cQ _));have j5:=sh 0;have f6:=sh 1;have eF:=sh 2;have e0:=g6.o.cell 0;have br:=g6.o.cell 1;have a4:=g6.o.cell 2;change bi.cell? (B ci 0)=A (r c 0) at e0;change bi.cell? (B ci 1)=A (r c 0) at br;change bi.cell? (B ci 2)=A (r c 0) at a4;refine jG 12 (((bi.setCell (B ci 0) (r c c0)).setCell (B ci 1) (r c cI)).setCell (B ci 2) (r c dB)) ?_;refine fc ?_;go_wp2_with fail
     go_meet
     ·exact⟨ci,c0,cI,dB,_,rfl,I ⟨⟨I4,Gs,DQ⟩,G,bS,cd,j9.o⟩⟩
   ·obtain⟨ci,g5⟩:=al bH.heap.size;obtain⟨ay,bU⟩:=al (bH.alloc (an #[r c 0,r c 0,r c 0] 57));refine gD (J ci 0) ay ?_ (he:=by rw[bU,g5];go_simp);have hb:=dx bU;have ft:=I (show V ay ci #[r c 0,r c 0,r c 0] 57 (0,0) by rw[bU,g5];exact V.new _ _ _ _);have j9:=I (eg.apart cS.o tV.o);rw[<-g5] at j9;have u6:=I (eg.below tV.o hb);obtain⟨k1,n8⟩:=al k0;rw[<-n8] at u6;have ax:ay.cell? (B b6 0)=A (r c N):=(eg.aH u6.o).cell 0;clear bU g5;refine⟨λ_=>ax,?_⟩;simp only[bN,bM,bO];refine dJ 3 ?_;have mV:=eg.sg cS.o u6.o;refine e3 35 #[J p 0,r c N] (ks.o (N:Int) G ay _ mV G) ?_;rintro e aJ ⟨c0,k2,rfl,⟨j7,j8,_⟩,eQ,fy,mj⟩;have I4:0<=c0/\c0<(N:Int):=by rcases j8 with h|h<;>omega
    refine⟨_,rfl,?_⟩;have qX:=I (eg.next cS.o u6.o mj fy);have dT:=I (mj.aH ft.o j9.o.p);have ax:aJ.cell? (B b6 0)=A (r c N):=(eg.aH qX.o).cell 0;have yJ:k2<=k+1:=G;refine⟨λ_=>ax,?_⟩;simp only[bN,bM,bO];refine dJ 7 ?_;have mV:=eg.sg cS.o qX.o;refine e3 35 #[J p 0,r c N] (ks.o (N:Int) G aJ _ mV G) ?_;rintro e ba ⟨cI,k3,rfl,⟨j7,j8,_⟩,eQ,fy,mj⟩;have Gs:0<=cI/\cI<(N:Int):=by rcases j8 with h|h<;>omega
    refine⟨_,rfl,?_⟩;have lY:=I (eg.next cS.o qX.o mj fy);have dh:=I (mj.aH dT.o j9.o.p);have ax:ba.cell? (B b6 0)=A (r c N):=(eg.aH lY.o).cell 0;have Zt:k3<=k+2:=G;refine⟨λ_=>ax,?_⟩;simp only[bN,bM,bO];refine dJ 9 ?_;have mV:=eg.sg cS.o lY.o;refine e3 36 #[J p 0] (BG.o ba _ mV G) ?_;rintro e bi ⟨dB,k4,rfl,DQ,eQ,fy,mj⟩;refine⟨_,rfl,?_⟩;have jK:=I (eg.next cS.o lY.o mj fy);have g6:=I (mj.aH dh.o j9.o.p);have ax:bi.cell? (B b6 0)=A (r c N):=(eg.aH jK.o).cell 0;have M4:k4<=k+4:=G;refine⟨λ_=>ax,?_⟩;simp only[bN,bM,bO];refine ct 10 (aZ #[r c c0,r c cI,r c dB]) (λ_=>ax) ?_;have bS:=((eg.wi (i:=0) (v:=r c c0) jK.o j9.o).wi (i:=1) (v:=r c cI) j9.o).wi (i:=2) (v:=r c dB) j9.o;have cd:=((g6.o.set 0 (r c c0)).set 1 (r c cI)).set 2 (r c dB);have sh:=λi=>g6.o.free i (hD (cQ _));have j5:=sh 0;have f6:=sh 1;have eF:=sh 2;have e0:=g6.o.cell 0;have br:=g6.o.cell 1;have a4:=g6.o.cell 2;change bi.cell? (B ci 0)=A (r c 0) at e0;change bi.cell? (B ci 1)=A (r c 0) at br;change bi.cell? (B ci 2)=A (r c 0) at a4;refine jG 12 (((bi.setCell (B ci 0) (r c c0)).setCell (B ci 1) (r c cI)).setCell (B ci 2) (r c dB)) ?_;refine fc ?_;go_wp2_with fail
    go_meet
    ·exact⟨ci,c0,cI,dB,_,rfl,I ⟨⟨I4,Gs,DQ⟩,G,bS,cd,j9.o⟩⟩
  obtain⟨ci,c0,cI,dB,hY,rfl,hrel⟩:=hcut;obtain⟨Gr,eQ,MI,cd,hAp⟩:=hrel.o;obtain⟨u,Z,bS⟩:=MI;have aCV:Q.length<=1000000:=bI dM.o.1;have li:=bS.aH.cell 3;change wc.cell? (B b6 3)=A aN at li;have xd:=cd.cell 0;have lC:=cd.cell 1;have mD:=cd.cell 2;change wc.cell? (B ci 0)=A (r c c0) at xd;change wc.cell? (B ci 1)=A (r c cI) at lC;change wc.cell? (B ci 2)=A (r c dB) at mD;obtain⟨iV,lg⟩:=al (wc.alloc (an #[r c c0,r c cI,r c dB] 57));have kO:=dx lg;have g5:V iV wc.heap.size (nL ((c0,cI,dB):bd)).toArray 57:=by rw[lg];exact V.new _ _ _ _
  obtain⟨v1,fK,ml,⟨a1,b2,aV,h5⟩,aX,I2,j6⟩:=(bS.below kO).Rr g5 (by dsimp only;omega);subst h5;have e8:=aX.cell 3;have Zs:=aX.free 3 (hD (cQ _));change fK.cell? (B b6 3)=A aN at e8;have eB:V fK ci #[r c c0,r c cI,r c dB] 57:=(I2.block ci (cd.aq kO).lt hAp.a).trans (cd.aq kO);have el:=eB.gr (B b6 3) (E a1 b2 aV) hAp.sX;have qm:eg w a' b6 p (b6+1) L bW bV (E a1 b2 aV) ⟨(N:Nat),X,Y,Q++[(c0,cI,dB)]⟩ hY (fK.setCell (B b6 3) (E a1 b2 aV)):=⟨u,Z,j6⟩;have t1:=I ml;have lY:=I qm;rw[lg] at t1;clear lg;go_wp2_with(at_builtin;refine uX rfl _ _ _ _ rfl t1.o ?_)
  generalize fK.setCell (B b6 3) (E a1 b2 aV)=dI at*;have mV:=eg.sg cS.o lY.o;refine(ks.o 4 bj dI hY mV G).mono ?_;rintro e gY ⟨x,k7,rfl,⟨_,_,_⟩,DR,ak9,Zu⟩;have Zv:=eg.next cS.o lY.o Zu ak9;have cd:=Zu.aH el hAp.p;have wk:=I (show∀a∈Q++[(c0,cI,dB)],wd (N:Int) a from RO dM.o.2 Gr);have I5:=I (show(Q++[(c0,cI,dB)]).length<=N+2*j+1 by rw[gW];have:=dM.o.1;show Q.length+1<=_;omega);by_cases ak:x=0
  case pos=>
   subst ak;obtain⟨u,Z,bS⟩:=Zv;have li:=bS.aH.cell 3;change gY.cell? (B b6 3)=A (E a1 b2 aV) at li;have xd:=cd.cell 0;have lC:=cd.cell 1;have mD:=cd.cell 2;change gY.cell? (B ci 0)=A (r c c0) at xd;change gY.cell? (B ci 1)=A (r c cI) at lC;change gY.cell? (B ci 2)=A (r c dB) at mD;obtain⟨iV,lg⟩:=al (gY.alloc (an #[r c cI,r c c0,r c dB] 57));have kO:=dx lg;have g5:V iV gY.heap.size (nL ((cI,c0,dB):bd)).toArray 57:=by rw[lg];exact V.new _ _ _ _
   obtain⟨v2,ls,ml,⟨a2,cm,bb,lw⟩,aX,I2,j6⟩:=(bS.below kO).Rr g5 (by dsimp only;have:=I5.o;omega);subst lw;have e8:=aX.cell 3;have Zs:=aX.free 3 (hD (cQ _));change ls.cell? (B b6 3)=A (E a1 b2 aV) at e8;have ak_:eg w a' b6 p (b6+1) L bW bV (E a2 cm bb) ⟨(N:Nat),X,Y,(Q++[(c0,cI,dB)])++[(cI,c0,dB)]⟩ k7 (ls.setCell (B b6 3) (E a2 cm bb)):=⟨u,Z,j6⟩;have t1:=I ml;rw[lg] at t1;have ak':=I (RO wk.o (a:=(cI,c0,dB)) ⟨Gr.2.1,Gr.1,Gr.2.2⟩);clear lg;go_wp2_with(at_builtin;refine uX rfl _ _ _ _ rfl t1.o ?_)
   go_roundw
   ·exact⟨j+1,_,_,_,G,by go_num,I ⟨⟨by rw[gW];have:=I5.o;show(Q++[(c0,cI,dB)]).length+1<=_;omega,G,ak'.o⟩,ak_⟩⟩
   ·simp[cu];omega
  case neg=>
   have RR:(x==0)=ao:=by simpa using ak
   go_wp2_with fail;go_roundw
   ·exact⟨j+1,_,_,_,G,by go_num,I ⟨⟨bI I5.o,G,wk.o⟩,Zv⟩⟩
   ·simp[cu];omega
 case neg=>
  obtain rfl:iF=j:=G;have DM:=mU;have fk:=eg.cq cS.o DM;have iP:=eg.kept cS.o DM;obtain⟨u,Z,bS⟩:=DM;have mH:=qk bS.own.1;have nO:=qk bS.own.2.1;have eG:=qk bS.own.2.2.1;obtain⟨cP,cC,rfl,_⟩:=mH;obtain⟨eR,ey,rfl,_⟩:=nO;obtain⟨e',eD,rfl,_⟩:=eG;dsimp only at bS;have n9:=bS.aH;have bR:=n9.cell 0;have aV:=n9.cell 1;have bb:=n9.cell 2;have ch:=n9.cell 3;change wr.cell? (B b6 0)=A (r c N) at bR;change wr.cell? (B b6 1)=A (E cP X.length cC) at aV;change wr.cell? (B b6 2)=A (E eR Y.length ey) at bb;change wr.cell? (B b6 3)=A (E e' Q.length eD) at ch;have e0:=fk.cell 0;have br:=fk.cell 1;have a4:=fk.cell 2;have en:=fk.cell 3;change wr.cell? (B a' 0)=A (r c 0) at e0;change wr.cell? (B a' 1)=A (E T 0 0) at br;change wr.cell? (B a' 2)=A (E T 0 0) at a4;change wr.cell? (B a' 3)=A (E T 0 0) at en;have fr:=jw fk;have j5:=fr 0;have f6:=fr 1;have eF:=fr 2;have f3:=fr 3;have M5:∀q:Nat,q=a'->(q=p\/w.heap.size<=q):=λq h=>by subst h;exact .inr cS.o.cq
  have lZ:=(((fk.set 0 (r c N)).set 1 (E cP X.length cC)).set 2 (E eR Y.length ey)).set 3 (E e' Q.length eD);have R2:=(((bS.own.set (p:=B a' 0) fk bj bj (r c N)).set (p:=B a' 1) (fk.set 0 (r c N)) bj bj (E cP X.length cC)).set (p:=B a' 2) ((fk.set 0 (r c N)).set 1 (E cP X.length cC)) bj bj (E eR Y.length ey)).set (p:=B a' 3) (((fk.set 0 (r c N)).set 1 (E cP X.length cC)).set 2 (E eR Y.length ey)) bj bj (E e' Q.length eD);have M6:=(((((iP.mono (be:=λk=>k=p\/w.heap.size<=k) (λ_ h=> .inl h)).setCell (p:=B a' 0) (M5 _ rfl) (r c N)).setCell (p:=B a' 1) (M5 _ rfl) (E cP X.length cC)).setCell (p:=B a' 2) (M5 _ rfl) (E eR Y.length ey)).setCell (p:=B a' 3) (M5 _ rfl) (E e' Q.length eD)).new;have qh:w.heap.size<=u.heap.size:=by rw[Z.1];exact BH.o
  have yM:Raw.e2 ⟨(N:Nat),X,Y,Q⟩:=by
   have h1:=e7.o.1;have h2:=e7.o.2.1;have ap:=dM.o.1;refine⟨⟨?_,?_⟩,?_,?_,e7.o.2.2.2.1,e7.o.2.2.2.2,?_,dM.o.2⟩<;>dsimp only<;>omega
  have pO:Q.length<=84:=bI dM.o.1;go_wp2_with fail;generalize(((wr.setCell (B a' 0) (r c N)).setCell (B a' 1) (E cP X.length cC)).setCell (B a' 2) (E eR Y.length ey)).setCell (B a' 3) (E e' Q.length eD)=hR at*;have fU:=lZ.cell 0;have fO:=lZ.cell 1;have fD:=lZ.cell 2;have iU:=lZ.cell 3;change hR.cell? (B a' 0)=A (r c N) at fU;change hR.cell? (B a' 1)=A (E cP X.length cC) at fO;change hR.cell? (B a' 2)=A (E eR Y.length ey) at fD;change hR.cell? (B a' 3)=A (E e' Q.length eD) at iU;exact gh (v:=aZ #[r c N,E cP X.length cC,E eR Y.length ey,E e' Q.length eD]) (by simp[gq,results13,go_sem,fU,fO,fD,iU]) rfl ⟨_,rfl,⟨(N:Nat),X,Y,Q⟩,⟨_,_,_,rfl,n5 R2.1 qh,n5 R2.2.1 qh,n5 R2.2.2.1 qh,R2.2.2.2⟩,yM,⟨by dsimp only;omega,pO⟩,M6⟩
abbrev bw:=Int×Int
def a0 (a b:bw):Prop:=a.2<b.2\/(a.2=b.2/\a.1<b.1)
def hle (a b:bw):Prop:=¬a0 b a
instance(a b:bw):Decidable (a0 a b):=by unfold a0;infer_instance
theorem RT (a:bw):hle a a:=by unfold hle a0;omega
theorem DS {a b R:bw} (h:hle a b) (k:hle b R):hle a R:=by unfold hle a0 at*;omega
theorem I6 {a b:bw} (h:a0 a b):hle a b:=by unfold hle a0 at*;omega
theorem Zw {a b:bw} (h:hle a b):a.2<=b.2:=by unfold hle a0 at h;omega
theorem ala {a b:bw} (h1:a.1=b.1) (h2:a.2<=b.2):hle a b:=by unfold hle a0;omega
def si (f:Nat->bw) (i k:Nat):Nat->bw:=λj=>if j=k then f i else if j=i then f k else f j
def j_ (n:Nat) (f:Nat->bw):Prop:=∀j,0<j->j<n->hle (f ((j-1)/4)) (f j)
theorem j_.least {f:Nat->bw} (h:j_ n f):∀j,j<n->hle (f 0) (f j):=by
 intro j
 induction j using Xu with
 |_ j d4=>
  intro av;by_cases h0:j=0
  ·subst h0;exact RT _
  ·exact DS (d4 ((j-1)/4) G G) (h j G av)
def s3 (n:Nat) (f:Nat->bw) (i:Nat):Prop:=
 (∀j,0<j->j<n->j≠i->hle (f ((j-1)/4)) (f j))/\(∀j,0<j->j<n->(j-1)/4=i->0<i->hle (f ((i-1)/4)) (f j))
theorem s3.done {f:Nat->bw} (h:s3 n f i) (aB:i=0\/¬a0 (f i) (f ((i-1)/4))):j_ n f:=λj h0 av=>by
 by_cases e:j=i
 ·subst e;rcases aB with h1|h1
  ·omega
  ·exact h1
 ·exact h.1 j h0 av e
theorem s3.step {f:Nat->bw} (h:s3 n f i) (h0:0<i) (ag:i<n) (aw:a0 (f i) (f ((i-1)/4))):s3 n (si f i ((i-1)/4)) ((i-1)/4):=by
 obtain⟨q,aO⟩:=al ((i-1)/4);have aCW:q<i:=G;rw[<-aO] at aw⊢;refine⟨λj ku av b9=>?_,λj ku av aP q0=>?_⟩
 ·unfold si;by_cases br:j=i
  ·subst br;rw[if_neg (show j≠q by omega),if_pos rfl,if_pos aO.symm];exact I6 aw
  ·rw[if_neg b9,if_neg br];by_cases a4:(j-1)/4=q
   ·rw[if_pos a4];have:=h.1 j ku av br;rw[a4] at this;exact DS (I6 aw) this
   ·by_cases en:(j-1)/4=i
    ·rw[if_neg a4,if_pos en];have:=h.2 j ku av en h0
     rwa[<-aO] at this
    ·rw[if_neg a4,if_neg en];exact h.1 j ku av br
 ·unfold si;rw[if_neg (show(q-1)/4≠q by omega),if_neg (show(q-1)/4≠i by omega)];have RU:=h.1 q q0 G G;by_cases br:j=i
  ·subst br;rw[if_neg (show j≠q by omega),if_pos rfl];exact RU
  ·rw[if_neg (show j≠q by omega),if_neg br];have:=h.1 j ku av br;rw[aP] at this;exact DS RU this
theorem s3.push {f g:Nat->bw} (h:j_ n f) (hg:∀j,j<n->g j=f j):s3 (n+1) g n:=
 ⟨λj ku av b9=>by rw[hg j G,hg _ G];exact h j ku G,λj ku av aP=>by omega⟩
theorem s3.lower {f g:Nat->bw} (h:j_ n f) (ag:i<n) (hg:∀j,j≠i->g j=f j) (aw:hle (g i) (f i)):s3 n g i:=by
 refine⟨λj ku av b9=>?_,λj ku av aP eP=>?_⟩
 ·rw[hg j b9];by_cases e:(j-1)/4=i
  ·rw[e];have:=h j ku av;rw[e] at this;exact DS aw this
  ·rw[hg _ e];exact h j ku av
 ·rw[hg j G,hg _ G];have h1:=h i eP ag;have h2:=h j ku av;rw[aP] at h2;exact DS h1 h2
def wl (n:Nat) (f:Nat->bw) (i:Nat):Prop:=
 (∀j,0<j->j<n->(j-1)/4≠i->hle (f ((j-1)/4)) (f j))/\(∀j,0<j->j<n->(j-1)/4=i->0<i->hle (f ((i-1)/4)) (f j))
theorem wl.done {f:Nat->bw} (h:wl n f i) (aB:∀j,0<j->j<n->(j-1)/4=i->hle (f i) (f j)):j_ n f:=λj h0 av=>by
 by_cases e:(j-1)/4=i
 ·have:=aB j h0 av e
  rwa[<-e] at this
 ·exact h.1 j h0 av e
theorem wl.step {f:Nat->bw} (h:wl n f i) (sW:0<b) (hb:b<n) (aP:(b-1)/4=i) (aB:∀j,0<j->j<n->(j-1)/4=i->hle (f b) (f j)) (aw:a0 (f b) (f i)):wl n (si f i b) b:=by
 refine⟨λj ku av b9=>?_,λj ku av aO _=>?_⟩
 ·unfold si;rw[if_neg b9];by_cases br:(j-1)/4=i
  ·rw[if_pos br];by_cases a4:j=b
   ·subst a4;rw[if_pos rfl];exact I6 aw
   ·rw[if_neg a4,if_neg (show j≠i by omega)];exact aB j ku av br
  ·rw[if_neg br,if_neg (show j≠b by intro e;subst e;exact br aP)];by_cases a4:j=i
   ·subst a4;rw[if_pos rfl];exact h.2 b sW hb aP ku
   ·rw[if_neg a4];exact h.1 j ku av br
 ·unfold si;rw[if_neg (show(b-1)/4≠b by omega),if_pos aP,if_neg (show j≠b by omega),if_neg (show j≠i by omega)];have:=h.1 j ku av G
  rwa[aO] at this
theorem wl.pop {f g:Nat->bw} (h:j_ (n+1) f) (hg:∀j,0<j->j<n->g j=f j):wl n g 0:=by
 refine⟨λj ku av b9=>?_,λj ku av aP eP=>by omega⟩;rw[hg j ku av,hg _ G G];exact h j ku G
def cn (L:List bw) (j:Nat):bw:=L[j]?.getD (0,0)
theorem I7 {L:List bw} (h:j<L.length):cn L j=L[j]:=by unfold cn;rw[eA h];rfl
theorem nb {L:List bw} {x:bw}:x∈L↔∃j,j<L.length/\cn L j=x:=by
 constructor
 ·intro h;obtain⟨j,av,e⟩:=FL.1 h;exact⟨j,av,by rw[I7 av,e]⟩
 ·rintro⟨j,av,rfl⟩;rw[I7 av];exact gB av
def nQ (L:List bw) (i k:Nat):List bw:=(L.set i (cn L k)).set k (cn L i)
theorem qY (L:List bw) (i k:Nat):(nQ L i k).length=L.length:=by unfold nQ;rw[gN,gN]
theorem BJ (L:List bw) (ag:i<L.length) (K:k<L.length):cn (nQ L i k)=si (cn L) i k:=by
 funext j;unfold nQ si;by_cases br:j=k
 ·subst br;rw[if_pos rfl];unfold cn;rw[tJ (by rw[gN];exact K)];rfl
 ·rw[if_neg br];by_cases a4:j=i
  ·subst a4;rw[if_pos rfl];unfold cn;rw[uM (λe=>br e.symm),tJ ag];rfl
  ·rw[if_neg a4];unfold cn;rw[uM (λe=>br e.symm),uM (λe=>a4 e.symm)]
theorem alb (f:Nat->bw) (i k j:Nat):f j=si f i k (if j=i then k else if j=k then i else j):=by
 unfold si;by_cases br:j=i
 ·subst br;rw[if_pos rfl,if_pos rfl]
 ·rw[if_neg br];by_cases a4:j=k
  ·subst a4;rw[if_pos rfl,if_neg (λe=>br e.symm),if_pos rfl]
  ·rw[if_neg a4,if_neg a4,if_neg br]
theorem M7 {L:List bw} (ag:i<L.length) (K:k<L.length) (x:bw):x∈nQ L i k↔x∈L:=by
 rw[nb,nb,BJ L ag K,qY];constructor
 ·rintro⟨j,av,rfl⟩;unfold si;split
  ·exact⟨i,ag,rfl⟩
  ·split
   ·exact⟨k,K,rfl⟩
   ·exact⟨j,av,rfl⟩
 ·rintro⟨j,av,rfl⟩;refine⟨_,?_,(alb (cn L) i k j).symm⟩;split
  ·exact K
  ·split
   ·exact ag
   ·exact av
def n_ (L:List bw):Prop:=∀i j,i<L.length->j<L.length->(cn L i).1=(cn L j).1->i=j
theorem n_.swap {L:List bw} (h:n_ L) (ag:i<L.length) (K:k<L.length):n_ (nQ L i k):=λa b ha hb e=>by
 rw[qY] at ha hb;rw[BJ L ag K] at e;unfold si at e;split at e<;>split at e<;>(try split at e)<;>(try split at e)<;>first
  |omega
  |(have:=h _ _ (by assumption) (by assumption) e;omega)
def h_ (aD:bd->Int) (L:List bd) (v:Nat):Nat->List Int
 |0=>[]
 |k+1=>if aD (L[k]?.getD (0,0,0))=(v:Int) then h_ aD L v k++[(k:Int)] else h_ aD L v k
theorem DT {L:List bd} {v:Nat} (h:aD (L[k]?.getD (0,0,0))=(v:Int)):h_ aD L v (k+1)=h_ aD L v k++[(k:Int)]:=by
 show(if _ then _ else _)=_;rw[if_pos h]
theorem DU {L:List bd} {v:Nat} (h:¬aD (L[k]?.getD (0,0,0))=(v:Int)):h_ aD L v (k+1)=h_ aD L v k:=by
 show(if _ then _ else _)=_;rw[if_neg h]
theorem RV (aD:bd->Int) (L:List bd) (v:Nat) (k d:Nat):(h_ aD L v k).length<=(h_ aD L v (k+d)).length:=by
 induction d with
 |zero=>exact bY _
 |succ d d4=>
  refine cM d4 ?_;show _<=(h_ aD L v (k+d+1)).length;by_cases h:aD (L[k+d]?.getD (0,0,0))=(v:Int)
  ·rw[DT h,gW];omega
  ·rw[DU h];exact bY _
theorem BK (aD:bd->Int) (L:List bd) (v k:Nat):(h_ aD L v k).length<=k:=by
 induction k with
 |zero=>exact bY _
 |succ k d4=>
  by_cases h:aD (L[k]?.getD (0,0,0))=(v:Int)
  ·rw[DT h,gW,w_];omega
  ·rw[DU h];omega
def pb (aD:bd->Int) (L:List bd) (k:Nat):Nat->Nat
 |0=>0
 |v+1=>pb aD L k v+(h_ aD L v k).length
theorem Gt (aD:bd->Int) (L:List bd) (k v:Nat):pb aD L k (v+1)=pb aD L k v+(h_ aD L v k).length:=rfl
theorem Zx (aD:bd->Int) (L:List bd):∀v,pb aD L 0 v=0
 |0=>rfl
 |v+1=>by rw[Gt,Zx aD L v];rfl
theorem Zy (aD:bd->Int) (L:List bd) (k:Nat) (h:0<=aD (L[k]?.getD (0,0,0))):∀v:Nat,pb aD L (k+1) v=pb aD L k v+(if aD (L[k]?.getD (0,0,0))<(v:Int) then 1 else 0)
 |0=>by rw[if_neg G];rfl
 |v+1=>by
  rw[Gt,Gt,Zy aD L k h v];by_cases e:aD (L[k]?.getD (0,0,0))=(v:Int)
  ·rw[DT e,gW,w_,if_neg G,if_pos G];omega
  ·rw[DU e];by_cases l:aD (L[k]?.getD (0,0,0))<(v:Int)
   ·rw[if_pos l,if_pos G];omega
   ·rw[if_neg l,if_neg G];omega
def Gu (aD:bd->Int) (L:List bd) (N:Nat):Prop:=∀k,k<L.length->0<=aD (L[k]?.getD (0,0,0))/\aD (L[k]?.getD (0,0,0))<(N:Int)
theorem Zz {L:List bd} (h:Gu aD L N):∀k,k<=L.length->pb aD L k N=k
 |0,_=>Zx aD L N
 |k+1,K=>by
  have h1:=h k G;rw[Zy aD L k h1.1 N,Zz h k G,if_pos h1.2]
theorem alc (aD:bd->Int) (L:List bd) (k v d:Nat):pb aD L k v<=pb aD L k (v+d):=by
 induction d with
 |zero=>exact bY _
 |succ d d4=>
  refine cM d4 ?_;show _<=pb aD L k (v+d+1);rw[Gt];omega
theorem RW (aD:bd->Int) (L:List bd) (k:Nat) {u v:Nat} (h:v<u):pb aD L k v+(h_ aD L v k).length<=pb aD L k u:=by
 rw[<-Gt];obtain⟨d,rfl⟩:∃d,u=v+1+d:=⟨u-(v+1),G⟩;exact alc aD L k (v+1) d
theorem RX {L:List bd} (h:Gu aD L N) {v:Nat} (aK:v<N):pb aD L L.length v+(h_ aD L v L.length).length<=L.length:=by
 have h1:=RW aD L L.length aK;rw[Zz h L.length (bY _)] at h1;exact h1
def wm (aD:bd->Int) (L:List bd) (N k:Nat):List Int:=(m8 N).map λv=>((h_ aD L v k).length:Int)
theorem RY (aD:bd->Int) (L:List bd) (N k:Nat):(wm aD L N k).length=N:=by unfold wm;rw[iT,tK]
theorem M8 (aD:bd->Int) (L:List bd) (N k v:Nat) (aK:v<N):(wm aD L N k)[v]? =A ((h_ aD L v k).length:Int):=by
 unfold wm;rw[w',Ik aK];rfl
theorem ald (aD:bd->Int) (L:List bd) (N:Nat):wm aD L N 0=d5 N 0:=by
 unfold wm;apply QB;intro i;rw[w'];by_cases h:i<N
 ·rw[Ik h,Il,if_pos h];rfl
 ·rw[yo (by simpa using h),yo (by simpa using h)];rfl
theorem ale (aD:bd->Int) (L:List bd) (N k:Nat) (v:Nat) (aK:v<N) (h:aD (L[k]?.getD (0,0,0))=(v:Int)):wm aD L N (k+1)=(wm aD L N k).set v (((h_ aD L v k).length:Int)+1):=by
 apply QB;intro i;by_cases ag:i<N
 ·rw[M8 aD L N (k+1) i ag];by_cases e:i=v
  ·subst e;rw[tJ (by rw[RY];exact ag),DT h,gW,w_];rfl
  ·rw[uM (h8 e),M8 aD L N k i ag,DU G]
 ·rw[yo (by rw[RY];omega),yo (by rw[gN,RY];omega)]
def rowsOf (aD:bd->Int) (L:List bd) (N:Nat):List (List Int):=(m8 N).map λv=>h_ aD L v L.length
theorem M9 (aD:bd->Int) (L:List bd) (N:Nat):(rowsOf aD L N).length=N:=by unfold rowsOf;rw[iT,tK]
theorem ZA (aD:bd->Int) (L:List bd) (N v:Nat) (aK:v<N):(rowsOf aD L N)[v]? =A (h_ aD L v L.length):=by
 unfold rowsOf;rw[w',Ik aK];rfl
def ns (a:bd):Int:=a.1
def mm (a:bd):Int:=a.2.1
theorem alf {U:Raw} (h:U.e2) (b1:(N:Int)=U.nodes):Gu ns U.arcs N/\Gu mm U.arcs N:=by
 constructor<;>intro k K<;>rw[eA K]<;>have ha:=h.aS _ (gB K)
 ·exact⟨ha.1.1,by have:=ha.1.2;show U.arcs[k].1<_;omega⟩
 ·exact⟨ha.2.1.1,by have:=ha.2.1.2;show U.arcs[k].2.1<_;omega⟩
def ru (w:O) (v:ac) (rows:List (List Int)):Prop:=
 ∃(a:Option Addr) (cap:Nat),v=E a rows.length cap/\rows.length<=cap/\cap<=ff/\∀i (h:i<rows.length),∃b off cs t fr kP,a=A (B b off)/\V w b cs t fr/\cs[off+i]? =A kP/\cR w kP rows[i]
theorem ru.a_ {L:List (List Int)} (h:ru w v L) (K:bu w D):ru D v L:=by
 obtain⟨a,cap,e,h1,h2,ap⟩:=h;refine⟨a,cap,e,h1,h2,λi ag=>?_⟩;obtain⟨b,off,cs,t,fr,kP,a8,hb,ah,ar⟩:=ap i ag;exact⟨b,off,cs,t,fr,kP,a8,K.aH hb,ah,ar.a_ K⟩
theorem er {cs alg:Array ac} {u7:cY} {ZB:Nat×Nat} (h:V w b cs t fr) (fx:V w b alg u7 ZB):t=u7:=by
 have e:=(show w.heap[b]? =A _ from h).symm.trans (show w.heap[b]? =A _ from fx);have a4:=eT e;injection a4
theorem wn:(prog.info? 3).map (λi=>(i.zero,i.size,i.bytes))=A (A (r c 0),1,8):=bq
theorem alh:(prog.info? 41).map (λi=>(i.zero,i.size,i.bytes))=A (A (E T 0 0),1,24):=bq
theorem ali (n:Nat) (aC:n<=10000000000) (u:O):
 (FC 133 (r c n) (r c n)).run aa u= .ok (E (A (B u.heap.size 0)) n n) (u.alloc (an (d5 n (iB T 0 0)).toArray 41)):=by
 obtain⟨eP,ag,fL,gi,gt⟩:=m6 alh;have h:=W9 (P:=aa) u 133 41 eP (E T 0 0) underlying133 ag fL c c (n:Int) (n:Int) G (rZ _) (by rw[gt];omega) G;have a4:madeCells #[iB T 0 0] n=(d5 n (iB T 0 0)).toArray:=by
  apply FD;rw[Xa]
 simpa [gi,Value.cells,a4] using h
theorem M_ (L:List Int) (i:Nat):(c6 c L)[i]? =(L[i]?).map (Value.int c):=by
 unfold c6;rw[la,w']
def DV (f:Nat) (aD:bd->Int):Prop:=(∀args w,(callFunc f args).run aa w= .ok (.enter f args) w)/\∀(a:bd) (u:O),aE aa f #[aZ #[r c a.1,r c a.2.1,r c a.2.2]] u λe D=>e=au (r c (aD a))/\ae u D
def I8 (ci:Nat) (L:List bd) (aD:bd->Int) (v:Nat) (len:Nat) (kP:ac):Prop:=∃o,kP=E (A (B ci o)) len (h_ aD L v L.length).length/\(0<(h_ aD L v L.length).length->o=pb aD L L.length v)
structure zZ (w:O) (ci ih:Nat) (L:List bd) (aD:bd->Int) (N k:Nat) (u:O):Prop where
 ZC:ae w u
 ex:∃t2 oT,V u ci t2 3 (0,0)/\t2.size=L.length/\V u ih oT 41 (0,0)/\oT.size=N/\(∀v,v<N->∃kP,oT[v]? =A kP/\I8 ci L aD v (h_ aD L v k).length kP)/\
  (∀v,v<N->∀(j:Nat) (x:Int),(h_ aD L v k)[j]? =A x->t2[pb aD L L.length v+j]? =A (r c x))
theorem zZ.below {ih:Nat} {L:List bd} {ed:O} (h:zZ w ci ih L aD N k u) (hb:ae u ed):zZ w ci ih L aD N k ed:=by
 obtain⟨h1,t2,oT,h2,ap,bl,cL,eI,gu⟩:=h;exact⟨h1.next' hb,t2,oT,h2.aq hb,ap,bl.aq hb,cL,eI,gu⟩
theorem zZ.step {ih:Nat} {L:List bd} {v:Nat} {o:Nat} (h:zZ w ci ih L aD N k u) (bK:Gu aD L N) (K:k<L.length) (aK:v<N) (is:aD (L[k]?.getD (0,0,0))=(v:Int)) (g5:w.heap.size<=ci) (alj:w.heap.size<=ih)
 (aQ:o=pb aD L L.length v):
 zZ w ci ih L aD N (k+1) ((u.setCell ⟨ci,o+(h_ aD L v k).length,T⟩ (r c k)).setCell (B ih v) (E (A (B ci o)) ((h_ aD L v k).length+1) (h_ aD L v L.length).length)):=by
 subst aQ;obtain⟨h1,t2,oT,h2,ap,bl,cL,eI,gu⟩:=h;have b9:ci≠ih:=λe=>by subst e;exact absurd (er h2 bl) bj
 have RZ:=DT is;have yx:(h_ aD L v k).length+1<=(h_ aD L v L.length).length:=by
  have h:=RV aD L v (k+1) (L.length-(k+1));rw[RZ,gW,w_,show k+1+(L.length-(k+1))=L.length by omega] at h;exact h
 have nM:=RX bK aK;refine⟨(h1.setCell (p:=B ci _) g5 _).setCell (p:=B ih _) alj _,t2.setIfInBounds (pb aD L L.length v+(h_ aD L v k).length) (r c k),oT.setIfInBounds v (E (A (B ci (pb aD L L.length v))) ((h_ aD L v k).length+1) (h_ aD L v L.length).length),(h2.set _ _).gr (B ih v) _ b9,by simpa using ap,(bl.gr (B ci _) _ (λe=>b9 e.symm)).set v _,by simpa using cL,λz b5=>?_,λz b5 j x av=>?_⟩
 ·by_cases e:z=v
  ·subst e;refine⟨E (A (B ci (pb aD L L.length z))) ((h_ aD L z k).length+1) (h_ aD L z L.length).length,by simp[cL,aK],pb aD L L.length z,?_,λ_=>rfl⟩;rw[RZ,gW,w_]
  ·rw[v6 (h8 e),DU G];exact eI z b5
 ·by_cases e:z=v
  ·subst e;rw[RZ] at av;by_cases pH:j<(h_ aD L z k).length
   ·rw[Ig pH] at av;rw[v6 G];exact gu z b5 j x av
   ·rw[FK G] at av;have u4:j-(h_ aD L z k).length=0:=by
     rcases Qq (j-(h_ aD L z k).length) with h|h
     ·exact h
     ·rw[yo (by simp;omega)] at av;cases av
    rw[u4] at av;obtain rfl:(k:Int)=x:=by simpa using av
    have alk:j=(h_ aD L z k).length:=G;subst alk;simp only[Array.getElem?_setIfInBounds_self];rw[if_pos G]
  ·rw[DU G] at av;have pH:=(r4.1 av).1;have hm:=RV aD L z k (L.length-k);rw[show k+(L.length-k)=L.length by omega] at hm;rw[v6]
   ·exact gu z b5 j x av
   ·rcases sJ z v with a0|aCX
    ·have:=RW aD L L.length a0;omega
    ·have:=RW aD L L.length (show v<z by omega);omega
theorem alm {o len cap:Nat} {t2:Array ac} {x:Int} (hA:V u ci t2 3) (hg:V u g #[r c x] 3) (nM:o+len<t2.size) (Gv:len+1<=cap):
 (qN #[41,41] 41 #[E (A (B ci o)) len cap,E (A (B g 0)) 1 1]).run aa u= .ok (E (A (B ci o)) (len+1) cap) (u.setCell (B ci (o+len)) (r c x)):=by
 obtain⟨eP,ag,_,gi,_⟩:=m6 wn;have aB:Src aa eP.size 41 (E (A (B g 0)) 1 1) 1 [r c x] u:=by
  refine Src.ofSlice u nG (B g 0) 1 1 [r c x] (by rw[gi];rfl) (World.news_of_block (cs:=#[r c x]) hg) (by simp[Value.oneCell'])
 have ar:=run_append_room_src (P:=aa) u 41 41 41 3 eP nG ag ci o len cap _ 1 _ aB Gv
  (λj av=>by
   have u4:j=0:=by simpa using av
   subst u4;rw[hA.cell,gi,FH,uH,QC nM];rfl)
  (λj _=>hA.free _ (hD (cQ _)))
 rw[gi,FH] at ar;exact ar
theorem ZD (f:Nat) (aD:bd->Int) (is:DV f aD) (nodes:Int) (bW bV aN:ac) (L:List bd) (N:Nat) (b1:(N:Int)=nodes) (DN:N<=16777216) (aCY:L.length<=67108864) (bK:Gu aD L N) cN (w:O) (n3:V w cN #[r c nodes,bW,bV,aN] 31) (ha:mF w aN L):
 aE aa 85 #[.func (.func f) #[] #[],J cN 0] w λe D=>∃v,e=au v/\
  (∀fo,D.heap.size<=fo.heap.size->(∀k,w.heap.size<=k->k<D.heap.size->fo.heap[k]? =D.heap[k]?)->ru fo v (rowsOf aD L N))/\ae w D:=by
 subst b1;obtain⟨dG,ga,rfl,BI,I9,_⟩:=id ha;unfold ff at I9;obtain⟨jR,ZE⟩:=is;have ZF:=λu=>ys (P:=aa) 41 3 c 8 nG wn N G G u;have M':=λu=>ys (P:=aa) 41 3 c 8 nG wn L.length G G u;have Na:=λu=>ali N G u;obtain⟨mW,sj⟩:=al w.heap.size;obtain⟨ay,bA⟩:=al (w.alloc (an (c6 c (d5 N 0)) 3));have aX:=dx bA;have f7:V ay mW (c6 c (wm aD L N 0)) 3:=by rw[bA,sj,ald];exact V.new _ _ _ _
 have bR:=n3.cell 0;have ch:=n3.cell 3;change w.cell? (B cN 0)=A (r c N) at bR;change w.cell? (B cN 3)=A (E dG L.length ga) at ch;have en:=mP aX ch;rw[bA] at en;have ft:=I aX;have cX:=I bA;have ZG:=I sj;have hlen:(0:Int)<=L.length:=G;clear bA;go_in;go_wp2_with fail;rw[<-cX.o,<-sj];clear sj;go_loopw [20] (λi wr=>∃(k:Nat),k<=L.length/\i=r c k/\aM (ae w wr/\V wr mW (c6 c (wm aD L N k)) 3)) (λi _=>L.length-(cu i).toNat)
 ·exact⟨0,G,rfl,I ⟨ft.o,f7⟩⟩
 ·obtain⟨k,K,rfl,hrel⟩:=hrel;by_cases a0:k<L.length
  ·have ie:(k:Int)<L.length:=G;have eP:=ew k;obtain⟨kC,cx,I_,d0,d1,d2⟩:=(ha.a_ (bu.bg hrel.o.1)).at k a0;subst I_;have z0:=bK k a0;have uY:L[k]?.getD (0,0,0)=L[k]:=by rw[eA a0];rfl
   rw[uY] at z0;obtain⟨v,aK⟩:=al ((aD L[k]).toNat);have BL:aD L[k]=(v:Int):=G;have oU:v<N:=G;have hst:=ale aD L N k v oU (by rw[uY];exact BL);obtain⟨R,ah⟩:=al ((h_ aD L v k).length);have Nb:R<=k:=by rw[ah];exact BK aD L v k
   rw[<-ah] at hst;obtain⟨x,ak⟩:=al (L[k]);rw[<-ak] at d0 d1 d2 BL;obtain⟨ci,g5⟩:=al wr.heap.size;obtain⟨wc,mI⟩:=al (wr.alloc (an #[r c x.1,r c x.2.1,r c x.2.2] 57));have kg:=dx mI;have C:=ZE x wc;rw[BL] at C;have BM:=M8 aD L N k v oU;rw[<-ah] at BM;have eB:=hrel.o.1.next' kg;have DW:=hrel.o.2.aq kg;have js:=ew v;have mC:(v:Int)<N:=G;have aJ:IntKind.i64.wrap ((R:Int)+1)=(R:Int)+1:=ll _ G G;have z1:=I mI;have t3:=I g5;clear mI g5 aK ah ak;go_wp2_with fail;rw[<-z1.o];refine dl C λbD cT=>?_;have I':=DW.aq cT;have eV:=eB.next' cT;have q:=I'.cell v;rw[M_,BM] at q;change bD.cell? (B mW v)=A (r c R) at q;have aCZ:=I'.free v (hD (cQ _));have z2:=I'.set v (r c ((R:Int)+1));rw[tO,<-hst] at z2;have eS:=eV.setCell (p:=B mW v) (by rw[ZG.o];exact bY _) (r c ((R:Int)+1));go_wp2_with fail;go_roundw
   ·exact⟨k+1,G,by go_num,I ⟨eS,z2⟩⟩
   ·simp[cu];omega
  ·obtain rfl:k=L.length:=G;have dT:=I hrel.o.1;have DX:=I hrel.o.2;have DY:=n3.aq hrel.o.1;have bR:=DY.cell 0;have ch:=DY.cell 3;change wr.cell? (B cN 0)=A (r c N) at bR;change wr.cell? (B cN 3)=A (E dG L.length ga) at ch;have Ja:∀u,ae wr u->(u.cell? (B cN 3)=A (E dG L.length ga)/\u.cell? (B cN 0)=A (r c N)):=λu Z=>⟨mP Z ch,mP Z bR⟩
   go_upto_region 7 with fail
   go_cut [7,8] from 33 (λaln alo yL=>∃ci ih,aln=E (A (B ci 0)) L.length L.length/\alo=E (A (B ih 0)) N N/\aM (ae wr yL/\V yL ci (c6 c (d5 L.length 0)) 3 (0,0)/\V yL ih (d5 N (iB T 0 0)).toArray 41 (0,0)/\wr.heap.size<=ci/\wr.heap.size<=ih))
   case first=>
    go_wp2_with fail;refine jQ (λD=>D.cell? (B cN 3)=A (E dG L.length ga)/\D.cell? (B cN 0)=A (r c N)) 8 rfl ?_;change ej _ _ _ _ _ _ _ 9 _ _ wr.drew;have l0:ae wr wr.drew:=(bx _ _).drew;have ax:wr.drew.cell? (B cN 3)=A (E dG L.length ga)/\wr.drew.cell? (B cN 0)=A (r c N):=Ja _ l0;repeat first|refine fS ?_|refine ea ?_
    refine Bk (i:=3) (k:=6) bq ?_ ?_
    ·obtain⟨dV,dz⟩:=al (wr.drew.alloc (an (c6 c (d5 L.length 0)) 3));have aX:ae wr dV:=by rw[dz];exact l0.alloc (bY _) _
     have k1:V dV wr.heap.size (c6 c (d5 L.length 0)) 3:=by rw[dz];exact V.new wr.drew _ _ _
     have g4:dV.heap.size=wr.heap.size+1:=by rw[dz];simp
     obtain⟨cz,hu⟩:=al (dV.alloc (an (d5 N (iB T 0 0)).toArray 41));have a5:=dx hu;have k2:V cz (wr.heap.size+1) (d5 N (iB T 0 0)).toArray 41:=by rw[hu,<-g4];exact V.new _ _ _ _
     have Jb:=k1.aq a5;have u9:=ig (aX.next' a5) Jb k2;have alp:(FC 41 (r c L.length) (r c L.length)).run aa wr.drew= .ok (E (A (B wr.heap.size 0)) L.length L.length) dV:=by rw[dz];exact M' wr.drew
     have alq:(FC 133 (r c N) (r c N)).run aa dV= .ok (E (A (B (wr.heap.size+1) 0)) N N) cz:=by rw[hu,<-g4];exact Na dV
     have t1:=Ja _ aX;have mX:=Ja _ (aX.next' a5);clear ZF M' Na dz hu aX a5 k1 Jb k2 g4;refine gD (E (A (B wr.heap.size 0)) L.length L.length) dV ?_;refine⟨λ_=>t1,?_⟩;simp only[bN,bM,bO];refine ct 7 (E (A (B wr.heap.size 0)) L.length L.length) (λ_=>t1) ?_;refine kr 6 (E (A (B (wr.heap.size+1) 0)) N N) cz ?_ (ak:=λ_=>mX);refine kr 8 (E (A (B (wr.heap.size+1) 0)) N N) cz ?_;refine fc ?_;go_wp2_with fail
     go_meet
     exact⟨_,_,rfl,rfl,I ⟨u9.o.1,u9.o.2.1,u9.o.2.2,bY _,Qw _⟩⟩
    ·obtain⟨dV,dz⟩:=al (wr.drew.alloc (an (d5 N (iB T 0 0)).toArray 41));have aX:ae wr dV:=by rw[dz];exact l0.alloc (bY _) _
     have k1:V dV wr.heap.size (d5 N (iB T 0 0)).toArray 41:=by rw[dz];exact V.new wr.drew _ _ _
     have g4:dV.heap.size=wr.heap.size+1:=by rw[dz];simp
     obtain⟨cz,hu⟩:=al (dV.alloc (an (c6 c (d5 L.length 0)) 3));have a5:=dx hu;have k2:V cz (wr.heap.size+1) (c6 c (d5 L.length 0)) 3:=by rw[hu,<-g4];exact V.new _ _ _ _
     have Jb:=k1.aq a5;have u9:=ig (aX.next' a5) Jb k2;have alq:(FC 133 (r c N) (r c N)).run aa wr.drew= .ok (E (A (B wr.heap.size 0)) N N) dV:=by rw[dz];exact Na wr.drew
     have alp:(FC 41 (r c L.length) (r c L.length)).run aa dV= .ok (E (A (B (wr.heap.size+1) 0)) L.length L.length) cz:=by rw[hu,<-g4];exact M' dV
     have t1:=Ja _ aX;have mX:=Ja _ (aX.next' a5);clear ZF M' Na dz hu aX a5 k1 Jb k2 g4;refine gD (E (A (B wr.heap.size 0)) N N) dV ?_;refine⟨λ_=>t1,?_⟩;simp only[bN,bM,bO];refine kr 3 (E (A (B (wr.heap.size+1) 0)) L.length L.length) cz ?_ (ak:=λ_=>mX);refine ct 7 (E (A (B (wr.heap.size+1) 0)) L.length L.length) (λ_=>mX) ?_;refine kr 8 (E (A (B wr.heap.size 0)) N N) cz ?_;refine fc ?_;go_wp2_with fail
     go_meet
     exact⟨_,_,rfl,rfl,I ⟨u9.o.1,u9.o.2.2,u9.o.2.1,Qw _,bY _⟩⟩
   case rest=>
    obtain⟨ci,ih,rfl,rfl,hcut⟩:=hcut;have DZ:=dT.o.trans (hcut.o.1.mono dT.o.size);have wo:=DX.o.aq hcut.o.1;have hle:=dT.o.size;have aC0:mW<wr.heap.size:=DX.o.lt;have ZH:w.heap.size<=ci:=cM hle hcut.o.2.2.2.1;have R3:w.heap.size<=ih:=cM hle hcut.o.2.2.2.2;have aC1:ci≠mW:=bI hcut.o.2.2.2.1;have alr:ih≠mW:=bI hcut.o.2.2.2.2;have R4:ci≠ih:=λe=>by
     subst e;exact absurd (er hcut.o.2.1 hcut.o.2.2.1) bj
    have Rj:=I hcut.o.2.1;have h4:=I hcut.o.2.2.1;go_wp2_with fail;go_loopw [9,42] (λat_ i wr=>∃(v p:Nat),v<=N/\i=r c v/\at_=r c p/\aM (p=pb aD L L.length v)/\aM (ae w wr/\V wr mW (c6 c (wm aD L N L.length)) 3 (0,0)/\V wr ci (c6 c (d5 L.length 0)) 3 (0,0)/\∃oT,V wr ih oT 41 (0,0)/\oT.size=N/\∀u,u<v->∃kP,oT[u]? =A kP/\I8 ci L aD u 0 kP)) (λ_ i _=>N-(cu i).toNat)
    ·exact⟨0,0,G,rfl,rfl,I rfl,I ⟨DZ,wo,Rj.o,_,h4.o,a3,λu Z=>by omega⟩⟩
    ·obtain⟨v,p,aK,rfl,rfl,aP,hrel⟩:=hrel;obtain⟨hb,hm,Nc,oT,cg,xv,ZI⟩:=hrel.o;by_cases a0:v<N
     ·have ie:(v:Int)<N:=G;have eP:=ew v;obtain⟨R,ah⟩:=al ((h_ aD L v L.length).length)
      replace aP:=aP.o
      have xt:=RX bK a0;have fY:=Gt aD L L.length v;rw[<-ah,<-aP] at xt fY;have q:=hm.cell v;rw[M_,M8 aD L N L.length v a0,<-ah] at q;change wr.cell? (B mW v)=A (r c R) at q;obtain⟨o,aQ⟩:=al (if R=0 then 0 else p);have qS:∀u,(Instr.slice 41 (E (A (B ci 0)) L.length L.length) (A (r c p)) (A (r c p)) (A (r c ((p:Int)+(R:Int))))).run aa u= .ok (E (A (B ci o)) 0 R) u:=λu=>by
       rw[run_slice_lhm (P:=aa) u 41 (A (B ci 0)) L.length L.length nG c c c p p ((p:Int)+(R:Int)) G (rZ _) G G];have aB:(sizeOf (prog.elem 41)).run aa u= .ok 1 u:=bq;rw[aB];have br:((p:Int)+(R:Int)).toNat=p+R:=G;simp only[o5,sliced,br,ko,Dm,Nat.add_sub_cancel_left,aQ];by_cases h0:R=0
       ·simp[h0]
       ·rw[if_neg G,if_neg h0];simp[Addr.add];intro h;exact h.symm
      have aC2:IntKind.i64.wrap ((p:Int)+(R:Int))=(p:Int)+(R:Int):=ll _ G G;have ak:∃x,oT[v]? =A x:=⟨_,QC G⟩;obtain⟨m_,als⟩:=ak;have q2:=cg.cell v;rw[als] at q2;change wr.cell? (B ih v)=A m_ at q2;have aC3:=cg.free v (hD (cQ _));have alt:I8 ci L aD v 0 (E (A (B ci o)) 0 R):=⟨o,by rw[ah],λh=>by rw[aQ,if_neg G,aP]⟩;have me:∀u,u<v+1->∃kP,(oT.setIfInBounds v (E (A (B ci o)) 0 R))[u]? =A kP/\I8 ci L aD u 0 kP:=λu Z=>by
       by_cases e:u=v
       ·subst e;exact⟨_,by simp[xv,a0],alt⟩
       ·rw[v6 (h8 e)];exact ZI u G
      have alu:ae w (wr.setCell (B ih v) (E (A (B ci o)) 0 R))/\V (wr.setCell (B ih v) (E (A (B ci o)) 0 R)) mW (c6 c (wm aD L N L.length)) 3 (0,0)/\V (wr.setCell (B ih v) (E (A (B ci o)) 0 R)) ci (c6 c (d5 L.length 0)) 3 (0,0)/\∃oT,V (wr.setCell (B ih v) (E (A (B ci o)) 0 R)) ih oT 41 (0,0)/\oT.size=N/\∀u,u<v+1->∃kP,oT[u]? =A kP/\I8 ci L aD u 0 kP:=
       ⟨hb.setCell (p:=B ih v) R3 _,hm.gr (B ih v) _ (λe=>alr e.symm),Nc.gr (B ih v) _ R4,_,cg.set v _,by simpa using xv,me⟩
      have aC4:=ew p;clear xv ah aP aQ;go_wp2_with fail;go_roundw
      ·exact⟨v+1,p+R,G,by go_num,by go_num,I fY.symm,I alu⟩
      ·simp[cu];omega
     ·obtain rfl:N=v:=G;have Nd:zZ w ci ih L aD N 0 wr:=⟨hrel.o.1,_,_,hrel.o.2.2.1,by rw[QW,jD],cg,xv,λv aK=>ZI v aK,λv _ j x av=>by simp[h_] at av⟩;have R5:=I Nd;have DY:=n3.aq hb;have ch:=DY.cell 3;change wr.cell? (B cN 3)=A (E dG L.length ga) at ch;clear xv;go_wp2_with fail;go_loopw [64] (λi wr=>∃(k:Nat),k<=L.length/\i=r c k/\aM (zZ w ci ih L aD N k wr)) (λi _=>L.length-(cu i).toNat)
      ·exact⟨0,G,rfl,R5⟩
      ·obtain⟨k,K,rfl,hrel⟩:=hrel;by_cases a0:k<L.length
       ·have ie:(k:Int)<L.length:=G;have eP:=ew k;obtain⟨kC,cx,I_,d0,d1,d2⟩:=(ha.a_ (bu.bg hrel.o.ZC)).at k a0;subst I_;have z0:=bK k a0;have uY:L[k]?.getD (0,0,0)=L[k]:=by rw[eA a0];rfl
        obtain⟨v,aK⟩:=al ((aD (L[k]?.getD (0,0,0))).toNat);have BL:aD (L[k]?.getD (0,0,0))=(v:Int):=G;have oU:v<N:=G;obtain⟨t2,oT,hA,ZJ,qQ,ZK,Jc,_⟩:=hrel.o.ex;obtain⟨kP,R6,o,Nf,R7⟩:=Jc v oU;have yx:(h_ aD L v k).length+1<=(h_ aD L v L.length).length:=by
         have h:=RV aD L v (k+1) (L.length-(k+1));rw[DT BL,gW,w_,show k+1+(L.length-(k+1))=L.length by omega] at h;exact h
        have aQ:=R7 G;have nM:=RX bK oU;obtain⟨x,ak⟩:=al (L[k]);rw[<-ak] at d0 d1 d2;rw[uY,<-ak] at BL;have tY:∀u,ae wr u->zZ w ci ih L aD N (k+1) ((u.setCell ⟨ci,o+(h_ aD L v k).length,T⟩ (r c k)).setCell (B ih v) (E (A (B ci o)) ((h_ aD L v k).length+1) (h_ aD L v L.length).length)):=λu Z=>
         (hrel.o.below Z).step bK a0 oU (by rw[uY,<-ak];exact BL) ZH R3 aQ
        obtain⟨len,ZL⟩:=al ((h_ aD L v k).length);obtain⟨cap,R8⟩:=al ((h_ aD L v L.length).length);rw[<-ZL,<-R8] at yx Nf tY;rw[<-R8,<-aQ] at nM;subst Nf;have alv:∀u g,ae wr u->V u g #[r c k] 3 (0,0)->(qN #[41,41] 41 #[E (A (B ci o)) len cap,E (A (B g 0)) 1 1]).run aa u= .ok (E (A (B ci o)) (len+1) cap) (u.setCell (B ci (o+len)) (r c k)):=λu g Z hg=>
         alm (hA.aq Z) hg (by rw[ZJ];omega) yx
        obtain⟨s4,Gw⟩:=al wr.heap.size;obtain⟨wc,mI⟩:=al (wr.alloc (an #[r c x.1,r c x.2.1,r c x.2.2] 57));have kg:=dx mI;have m':=eK mI Gw;have alw:wr.cell? (B ih v)=A (E (A (B ci o)) len cap):=by rw[qQ.cell];exact R6
        have qo:∀u,ae wc u->(u.cell? (B s4 0)=A (r c x.1)/\u.cell? (B s4 1)=A (r c x.2.1)/\u.cell? (B s4 2)=A (r c x.2.2)/\u.cell? (B ih v)=A (E (A (B ci o)) len cap)):=λu Z=>by
         have b:=m'.aq Z;exact⟨b.cell 0,b.cell 1,b.cell 2,mP (kg.next' Z) alw⟩
        have aC5:ci<wr.heap.size:=hA.lt;have aC6:ih<wr.heap.size:=qQ.lt;have R9:∀u,ae wc u->((u.setCell (B ci (o+len)) (r c k)).cell? (B s4 0)=A (r c x.1)/\(u.setCell (B ci (o+len)) (r c k)).cell? (B s4 1)=A (r c x.2.1)/\(u.setCell (B ci (o+len)) (r c k)).cell? (B s4 2)=A (r c x.2.2)/\(u.setCell (B ci (o+len)) (r c k)).cell? (B ih v)=A (E (A (B ci o)) len cap)):=λu Z=>by
         have b:=qo u Z;exact⟨(mO (d7 _ _ _ _ (show s4≠ci by omega))).trans b.1,(mO (d7 _ _ _ _ (show s4≠ci by omega))).trans b.2.1,(mO (d7 _ _ _ _ (show s4≠ci by omega))).trans b.2.2.1,(mO (d7 _ _ _ _ (λe=>R4 e.symm))).trans b.2.2.2⟩
        have R_:∀u,ae wc u->u.frozen? (B ih v)=ao:=λu Z=>(qQ.aq (kg.next' Z)).free v (hD (cQ _));have C:∀u,aE aa f #[aZ #[r c x.1,r c x.2.1,r c x.2.2]] u λe D=>e=au (r c v)/\ae u D:=λu=>by
         have h:=ZE x u;rw[BL] at h;exact h
        have Sa:∀u g,ae wc u->_:=λu g Z=>alv u g (kg.next' Z);have Sb:∀u,ae wc u->_:=λu Z=>tY u (kg.next' Z);have aC7:ih≠ci:=λe=>R4 e.symm;have js:=ew v;have mC:(v:Int)<N:=G;have z1:=I mI;have s5:=I Gw;clear aK ZK aQ ak ZL R8 mI;go_wp2_with fail;rw[<-z1.o,<-s5.o];clear Gw;refine jQ (λD=>D.cell? (B s4 0)=A (r c x.1)/\D.cell? (B s4 1)=A (r c x.2.1)/\D.cell? (B s4 2)=A (r c x.2.2)/\D.cell? (B ih v)=A (E (A (B ci o)) len cap)) 14 rfl ?_;change ej _ _ _ _ _ _ _ 15 _ _ wc.drew;have l0:ae wc wc.drew:=(bx _ _).drew;have ax:wc.drew.cell? (B s4 0)=A (r c x.1)/\wc.drew.cell? (B s4 1)=A (r c x.2.1)/\wc.drew.cell? (B s4 2)=A (r c x.2.2)/\wc.drew.cell? (B ih v)=A (E (A (B ci o)) len cap):=qo _ l0;repeat first|refine fS ?_|refine ea ?_
        refine Bk (i:=3) (k:=11) bq ?_ ?_
        ·skip
         refine e3 f #[aZ #[r c x.1,r c x.2.1,r c x.2.2]] (C wc.drew) ?_;rintro e bD ⟨rfl,Sc⟩;refine⟨_,rfl,?_⟩;have lW:=l0.next' Sc;have ax:=qo _ lW;refine⟨λ_=>ax,?_⟩;simp only[bN,bM,bO];refine Bk (i:=7) (k:=11) bq ?_ ?_
         ·skip
          refine e3 f #[aZ #[r c x.1,r c x.2.1,r c x.2.2]] (C bD) ?_;rintro e cG ⟨rfl,Gx⟩;refine⟨_,rfl,?_⟩;have ke:=lW.next' Gx;have ax:=qo _ ke;refine⟨λ_=>ax,?_⟩;simp only[bN,bM,bO];repeat first|refine fS ?_|refine ea ?_
          refine dJ 11 ?_;obtain⟨gY,Ng⟩:=al (cG.alloc (an #[r c k] 3));have D0:=dx Ng;have hg:=eK Ng rfl;have oV:∀(i:Nat),True:=λ_=>trivial;refine gD (E (A (B cG.heap.size 0)) 1 1) gY ?_ (he:=by rw[Ng];go_simp);have oR:=ke.next' D0;have ax:=qo _ oR;refine⟨λ_=>ax,?_⟩;simp only[bN,bM,bO];obtain⟨g,Jd⟩:=al cG.heap.size;rw[<-Jd] at hg⊢;clear Ng;have hAp:=Sa gY g oR hg;have xw:=R9 _ oR;have s6:=R_ _ oR;refine dJ 12 ?_;refine tP rfl rfl rfl (by rfl) _ _ _ _ rfl hAp ?_;refine⟨λ_=>xw,?_⟩;have ax:=xw;simp only[bN,bM,bO];repeat first|refine fS ?_|refine ea ?_
          have ZM:=(qo _ oR).2.2.2;refine jG 14 ((gY.setCell (B ci (o+len)) (r c k)).setCell (B ih v) (E (A (B ci o)) (len+1) cap)) ?_;refine fc ?_;have dq:=I (Sb _ oR);go_wp2_with fail;go_roundw
          ·exact⟨k+1,G,by go_num,I dq.o⟩
          ·simp[cu];omega
         ·skip
          obtain⟨cG,Nh⟩:=al (bD.alloc (an #[r c k] 3));have Gx:=dx Nh;have hg:=eK Nh rfl;have oV:∀(i:Nat),True:=λ_=>trivial;refine gD (E (A (B bD.heap.size 0)) 1 1) cG ?_ (he:=by rw[Nh];go_simp);have ke:=lW.next' Gx;have ax:=qo _ ke;refine⟨λ_=>ax,?_⟩;simp only[bN,bM,bO];obtain⟨g,Jd⟩:=al bD.heap.size;rw[<-Jd] at hg⊢;clear Nh;refine dJ 7 ?_;refine e3 f #[aZ #[r c x.1,r c x.2.1,r c x.2.2]] (C cG) ?_;rintro e gY ⟨rfl,D0⟩;refine⟨_,rfl,?_⟩;have oR:=ke.next' D0;have ax:=qo _ oR;refine⟨λ_=>ax,?_⟩;simp only[bN,bM,bO]
          replace hg:=hg.aq D0
          repeat first|refine fS ?_|refine ea ?_
          have hAp:=Sa gY g oR hg;have xw:=R9 _ oR;have s6:=R_ _ oR;refine dJ 12 ?_;refine tP rfl rfl rfl (by rfl) _ _ _ _ rfl hAp ?_;refine⟨λ_=>xw,?_⟩;have ax:=xw;simp only[bN,bM,bO];repeat first|refine fS ?_|refine ea ?_
          have ZM:=(qo _ oR).2.2.2;refine jG 14 ((gY.setCell (B ci (o+len)) (r c k)).setCell (B ih v) (E (A (B ci o)) (len+1) cap)) ?_;refine fc ?_;have dq:=I (Sb _ oR);go_wp2_with fail;go_roundw
          ·exact⟨k+1,G,by go_num,I dq.o⟩
          ·simp[cu];omega
        ·skip
         obtain⟨bD,Ni⟩:=al (wc.drew.alloc (an #[r c k] 3));have Sc:bQ wc.drew.heap.size wc.drew bD:=by rw[Ni];exact fb
         have hg:V bD wc.drew.heap.size #[r c k] 3:=by rw[Ni];exact V.new _ _ _ _
         have oV:∀(i:Nat),True:=λ_=>trivial;refine gD (E (A (B wc.drew.heap.size 0)) 1 1) bD ?_ (he:=by rw[Ni];go_simp);have lW:=l0.next' Sc;have ax:=qo _ lW;refine⟨λ_=>ax,?_⟩;simp only[bN,bM,bO];obtain⟨g,Jd⟩:=al wc.drew.heap.size;rw[<-Jd] at hg⊢;clear Ni;refine dJ 3 ?_;refine e3 f #[aZ #[r c x.1,r c x.2.1,r c x.2.2]] (C bD) ?_;rintro e cG ⟨rfl,Gx⟩;refine⟨_,rfl,?_⟩;have ke:=lW.next' Gx;have ax:=qo _ ke;refine⟨λ_=>ax,?_⟩;simp only[bN,bM,bO]
         replace hg:=hg.aq Gx
         refine dJ 7 ?_;refine e3 f #[aZ #[r c x.1,r c x.2.1,r c x.2.2]] (C cG) ?_;rintro e gY ⟨rfl,D0⟩;refine⟨_,rfl,?_⟩;have oR:=ke.next' D0;have ax:=qo _ oR;refine⟨λ_=>ax,?_⟩;simp only[bN,bM,bO]
         replace hg:=hg.aq D0
         repeat first|refine fS ?_|refine ea ?_
         have hAp:=Sa gY g oR hg;have xw:=R9 _ oR;have s6:=R_ _ oR;refine dJ 12 ?_;refine tP rfl rfl rfl (by rfl) _ _ _ _ rfl hAp ?_;refine⟨λ_=>xw,?_⟩;have ax:=xw;simp only[bN,bM,bO];repeat first|refine fS ?_|refine ea ?_
         have ZM:=(qo _ oR).2.2.2;refine jG 14 ((gY.setCell (B ci (o+len)) (r c k)).setCell (B ih v) (E (A (B ci o)) (len+1) cap)) ?_;refine fc ?_;have dq:=I (Sb _ oR);go_wp2_with fail;go_roundw
         ·exact⟨k+1,G,by go_num,I dq.o⟩
         ·simp[cu];omega
       ·obtain rfl:k=L.length:=G;have dq:=I hrel.o;go_wp2_with fail;go_ret;refine⟨_,rfl,λfo aB bU=>?_,dq.o.ZC⟩;obtain⟨t2,oT,hA,ZJ,qQ,ZK,Jc,zG⟩:=dq.o.ex;have uV:V fo ci t2 3:=(bU ci ZH hA.lt).trans hA;have nR:V fo ih oT 41:=(bU ih R3 qQ.lt).trans qQ;refine⟨A (B ih 0),N,by rw[M9];first|done|rfl,by rw[M9];exact bY _,by unfold ff;omega,λi ag=>?_⟩;have s7:i<N:=by rw[M9] at ag;exact ag
        obtain⟨kP,R6,o,Nf,R7⟩:=Jc i s7;have es:(rowsOf aD L N)[i]=h_ aD L i L.length:=by
         have h:=ZA aD L N i s7;rw[eA ag] at h;exact eT h
        refine⟨ih,0,oT,_,_,kP,rfl,nR,by rw[jC];exact R6,?_⟩;rw[es];refine⟨_,_,Nf,bY _,?_,λj av=>⟨ci,o,t2,_,_,rfl,uV,?_⟩⟩
        ·have:=BK aD L i L.length;unfold ff;omega
        ·rw[R7 G];exact zG i s7 j _ (eA av)
theorem Je (base:Nat) (v:ac) (L:List Int) (x:Int) (u:O) (ai:Nat) (fZ:u.ownsRow base 3 1 v L.length (L.flatMap ec)) (cd:V u ai #[r c x] 3 fr) (aw:L.length<=1000000) (qh:base<=u.heap.size):
 ∃a n R D,(qN #[41,41] 41 #[v,E (A (B ai 0)) 1 1]).run aa u= .ok (E a n R) D/\D.ownsRow base 3 1 (E a n R) (L++[x]).length ((L++[x]).flatMap ec)/\u.grownBy D v.ownBlock/\((iB a n R).ownBlock=v.ownBlock\/(iB a n R).ownBlock=A u.heap.size):=by
 obtain⟨eP,ag,fL,gi,gt⟩:=m6 wn;have aB:r_ 1 u (E (A (B ai 0)) 1 1) 1 (ec x):=⟨Bs x,λu Z=>by simp only[ec,gg,iS,or_false] at Z;rw[Z];rfl,_,1,rfl,bY _,by unfold ff;omega,λj q aO=>⟨ai,0,rfl,by rw[jC,cd.cell,la];exact aO⟩⟩;obtain⟨ca,D,ar,aQ,hg,gP,_⟩:=tU (P:=aa) base 41 41 3 eP _ 1 8 nG ag fL gi gt rfl G v L.length _ fZ _ 1 _ aB (by unfold ff;omega) G qh;obtain⟨a,n,R,rfl⟩:=aQ.ic;exact⟨a,n,R,D,ar,by rw[gW,w8];simpa using aQ,hg,gP⟩
theorem Sd {base:Nat} {size:Nat} {b7:List ac} (fZ:u.ownsRow base e size v n b7) (hg:u.grownBy D v.ownBlock) {cs:Array ac} (hb:V u b cs t fr) (ht:t≠e):V D b cs t fr:=
 (hg.block b hb.lt (λfm=>by obtain⟨_,_,aO⟩:=di fZ fm.symm;exact ht (er hb aO))).trans hb
theorem alx {Q ai:List Int} {v:Int} (h:v∈Q):(Q++ai).idxOf v=Q.idxOf v:=by rw[L7,if_pos h]
theorem aly {Q ai:List Int} {v:Int} (h:v∉Q):(Q++ai).idxOf v=ai.idxOf v+Q.length:=by rw[L7,if_neg h]
def hv (v:Int):Lit:= .int c v
theorem t4 (v:Int):aBk (hv v):=by unfold hv aBk;trivial
theorem pc {v u:Int} (h:v≠u):hv v≠hv u:=λe=>h (by unfold hv at e;injection e)
def alz (aF:kc Unit) (be:List Int) (p:Int->Bool):Prop:=∀v:Int,o6 aF (hv v)=(decide (v∈be)&&p v)/\(v∈be->p v=ad->∀z,aF.atKey (hv v) z= .lit (.int c (be.idxOf v)))
def Nj (aF:kc Unit) (be:List Int):Prop:=alz aF be λ_=>ad
theorem Nj.put {be:List Int} (h:Nj aF be) (fh:Xx aF) {u:Int} (Z:u∉be):Nj (aF.put (hv u) (.lit (.int c be.length))) (be++[u]):=λv=>by
 by_cases e:v=u
 ·subst e;refine⟨by rw[Im fh (t4 v)];simp,λ_ _ z=>?_⟩;rw[In fh (t4 v),aly Z];simp
 ·obtain⟨h1,h2⟩:=h v;refine⟨by rw[Dn (pc e),h1];simp[e],λhm aP z=>?_⟩;have xx:v∈be:=by simpa [e] using hm
  rw[Ba (pc e),h2 xx aP,alx xx]
def nS (aF:kc Unit) (L:List bw):Prop:=(∀id,o6 aF (hv id)=ad↔∃j,j<L.length/\(cn L j).1=id)/\∀j,j<L.length->∀z,aF.atKey (hv (cn L j).1) z= .lit (.int c j)
theorem nS.nil (h:∀k,o6 aF k=ao):nS aF []:=⟨λid=>by rw[h];simp,λj av=>by simp at av⟩
theorem nS.push {L:List bw} (h:nS aF L) (fh:Xx aF) {id key:Int} (aC:∀j,j<L.length->(cn L j).1≠id):nS (aF.put (hv id) (.lit (.int c L.length))) (L++[(id,key)]):=by
 have hold:∀j,j<L.length->cn (L++[(id,key)]) j=cn L j:=λj av=>by unfold cn;rw[Ig av]
 have me:cn (L++[(id,key)]) L.length=(id,key):=by unfold cn;rw[FK (bY _),Dm];rfl
 have hlen:(L++[(id,key)]).length=L.length+1:=a3;refine⟨λx=>?_,λj av z=>?_⟩
 ·by_cases e:x=id
  ·subst e;rw[Im fh (t4 x)];exact⟨λ_=>⟨L.length,G,by rw[me]⟩,λ_=>rfl⟩
  ·rw[Dn (pc e),h.1];constructor
   ·rintro⟨j,av,kD⟩;exact⟨j,G,by rw[hold j av];exact kD⟩
   ·rintro⟨j,av,kD⟩;by_cases a4:j<L.length
    ·exact⟨j,a4,by rw[<-hold j a4];exact kD⟩
    ·obtain rfl:j=L.length:=G;rw[me] at kD;exact absurd kD.symm e
 ·by_cases a4:j<L.length
  ·rw[hold j a4,Ba (pc (aC j a4)),h.2 j a4]
  ·obtain rfl:j=L.length:=G;rw[me];exact In fh (t4 id) ..
theorem nS.swap {L:List bw} (h:nS aF L) (fh:Xx aF) (bS:n_ L) (ag:i<L.length) (K:k<L.length):
 nS ((aF.put (hv (cn L k).1) (.lit (.int c i))).put (hv (cn L i).1) (.lit (.int c k))) (nQ L i k):=by
 have xy:Xx (aF.put (hv (cn L k).1) (.lit (.int c i))):=fh.put _ _;have zQ:∀id,(∃j,j<(nQ L i k).length/\(cn (nQ L i k) j).1=id)↔∃j,j<L.length/\(cn L j).1=id:=λid=>by
  have h1:=λx=>M7 ag K (L:=L) x;constructor
  ·rintro⟨j,av,e⟩;obtain⟨D1,yw,fm⟩:=nb.1 ((h1 _).1 (nb.2 ⟨j,av,rfl⟩));exact⟨D1,yw,by rw[fm];exact e⟩
  ·rintro⟨j,av,e⟩;obtain⟨D1,yw,fm⟩:=nb.1 ((h1 _).2 (nb.2 ⟨j,av,rfl⟩));exact⟨D1,yw,by rw[fm];exact e⟩
 refine⟨λx=>?_,λj av z=>?_⟩
 ·rw[zQ,<-h.1];by_cases br:x=(cn L i).1
  ·subst br;rw[Im xy (t4 _)];exact⟨λ_=>(h.1 _).2 ⟨i,ag,rfl⟩,λ_=>rfl⟩
  ·rw[Dn (pc br)];by_cases a4:x=(cn L k).1
   ·subst a4;rw[Im fh (t4 _)];exact⟨λ_=>(h.1 _).2 ⟨k,K,rfl⟩,λ_=>rfl⟩
   ·rw[Dn (pc a4)]
 ·rw[qY] at av;rw[BJ L ag K];unfold si;by_cases br:j=k
  ·subst br;rw[if_pos rfl];exact In xy (t4 _) ..
  ·rw[if_neg br];by_cases a4:j=i
   ·subst a4;rw[if_pos rfl,Ba (pc (λe=>br (bS _ _ av K e.symm)))];exact In fh (t4 _) ..
   ·rw[if_neg a4,Ba (pc (λe=>a4 (bS _ _ av ag e))),Ba (pc (λe=>br (bS _ _ av K e))),h.2 j av]
theorem nS.pop {L:List bw} (h:nS aF L) (bS:n_ L) (aC:L.length=n+1):nS (aF.del (hv (cn L n).1)) (L.take n):=by
 have hold:∀j,j<n->cn (L.take n) j=cn L j:=λj av=>by unfold cn;rw[Xy av]
 have hlen:(L.take n).length=n:=by rw[lS];omega
 refine⟨λx=>?_,λj av z=>?_⟩
 ·by_cases e:x=(cn L n).1
  ·subst e;rw[Maps.has_del_same];refine⟨gj,?_⟩;rintro⟨j,av,kD⟩;rw[hold j G] at kD;have:=bS j n G G kD;omega
  ·rw[Maps.has_del_other (pc e),h.1];constructor
   ·rintro⟨j,av,kD⟩;by_cases a4:j=n
    ·subst a4;exact absurd kD.symm e
    ·exact⟨j,G,by rw[hold j G];exact kD⟩
   ·rintro⟨j,av,kD⟩;exact⟨j,G,by rw[<-hold j G];exact kD⟩
 ·rw[hold j G,Maps.atKey_del_other (pc (λe=>by have:=bS j n G G e;omega)),h.2 j G]
theorem Se {P:il} {k:cY} {aj:ac->Option (kc Unit×List A8)} (h:w.ownsMap P k aj b n aF):w.ownsMap P k aj b (Do aF) aF:=by
 obtain⟨eJ,clock,hb,F,_,rfl⟩:=h;exact⟨eJ,clock,hb,F,by simp[Do,length_sorted],rfl⟩
section
open Go.RowKit Go.ChangeMaps Go.WideMaps Go.WideElems Go.MapKept
theorem alA {P:il} {k:cY} {aj:ac->Option (kc Unit×List A8)} {eJ:Array MapEntry} {clock:Nat} (aT:aBl P k) (ht:P.underlying t=A (.map k e)) {z:ac} (b5:∀u:O,(zeroValue e).run P u= .ok z u)
 (hb:w.heap[b]? =A (.map eJ clock)) (F:WideElems.Fit P k aj eJ clock) {key:ac} {z3:Lit} (pP:keyOf P k key=A z3) (val:ac):
 ∃v0 st Gy aV Gz bb,(xa t (.map (A b)) key).run P w= .ok (b8 #[v0,sK st]) (setBlock w b (.map Gy aV))/\
  (∀aJ:O,aJ.heap[b]? =A (.map Gy aV)->(xb t (.map (A b)) (sK st) val).run P aJ= .ok () (setBlock aJ b (.map Gz bb)))/\(uN t (.map (A b)) key val).run P w= .ok () (setBlock w b (.map Gz bb)):=by
 have hst:=F.stamped;have alB:=aT.find w pP eJ.toList F.keys;have qZ:=aT.check w ao pP;rcases alB with⟨hf,_⟩|⟨j,e0,hf,av,jl⟩
 ·refine⟨z,clock,eJ.push ⟨key,z,clock⟩,clock+1,eJ.push ⟨key,val,clock⟩,clock+1,?_,λaJ cK=>?_,?_⟩
  ·simp[xa,v4 ht,Bb hb,qZ,hf,b5,FO _ hb,o5,setBlock]
  ·have ag:(eJ.push ⟨key,z,clock⟩).findIdx? (λx=>((x.born:Nat):Int)==((clock:Nat):Int))=A eJ.size:=by
    rw[aBm];refine aBn (l:=(eJ.push ⟨key,z,clock⟩).toList) (j:=eJ.size) (e0:=⟨key,z,clock⟩) ?_ a3;rw[XB,qc,A'];refine⟨hst.2.1,a3,λx ak y az qU=>?_⟩;obtain⟨q,aO,rfl⟩:=jB.1 ak;have:=hst.1 q aO;simp at az;omega
   have hm:(eJ.push ⟨key,z,clock⟩).modify eJ.size (λx=>{x with val:=val})=eJ.push ⟨key,val,clock⟩:=by
    apply FD;rw[QD,XB,XB,<-Array.length_toList,WideElems.modify_last]
   simp[xb,Bb cK,asInt,asIntOf,sK,ag,hm,FO _ cK,o5,setBlock]
  ·simp[uN,v4 ht,Bb hb,qZ,hf,FO _ hb,o5,setBlock]
 ·have ZN:eJ[j]? =A e0:=by simpa using av
  have aB:eJ.modify j (λx=>{x with key:=key})=eJ:=by
   apply FD;rw[QD,modify_eq_set _ _ _ _ av,show({e0 with key:=key}:MapEntry)=e0 by rw[<-jl]];exact WideElems.set_self _ _ _ av
  refine⟨e0.val,e0.born,eJ,clock,eJ.modify j (λx=>{x with key:=key,val:=val}),clock,?_,λaJ cK=>?_,?_⟩
  ·simp[xa,v4 ht,Bb hb,qZ,hf,ZN,jl,aT.stays w pP,aB,FO _ hb,o5,setBlock]
  ·have ag:eJ.findIdx? (λx=>((x.born:Nat):Int)==((e0.born:Nat):Int))=A j:=by
    rw[aBm];exact aBn hst.2.1 av
   have hm:eJ.modify j (λx=>{x with val:=val})=eJ.modify j (λx=>{x with key:=key,val:=val}):=by
    apply FD;rw[QD,QD,modify_eq_set _ _ _ _ av,modify_eq_set _ _ _ _ av,<-jl]
   simp[xb,Bb cK,asInt,asIntOf,sK,ag,hm,FO _ cK,o5,setBlock]
  ·simp[uN,v4 ht,Bb hb,qZ,hf,ZN,jl,aT.stays w pP,FO _ hb,o5,setBlock]
theorem Sf {P:il} {k:cY} {aj:ac->Option (kc Unit×List A8)} (h:w.ownsMap P k aj b n aF) (aT:aBl P k) (ht:P.underlying t=A (.map k e)) (aC:n<ff) {z:ac} (b5:∀u:O,(zeroValue e).run P u= .ok z u)
 {key val:ac} {z3:Lit} {d:kc Unit} {c7:List A8} (pP:keyOf P k key=A z3) (aK:aj val=A (d,c7)):
 ∃v0 st ay aJ,(xa t (.map (A b)) key).run P w= .ok (b8 #[v0,sK st]) ay/\(xb t (.map (A b)) (sK st) val).run P ay= .ok () aJ/\w.mapTurned ay b/\aJ.ownsMap P k aj b (n+1) (aF.put z3 d)/\w.mapTurned aJ b:=by
 obtain⟨D,ar,aQ,hm⟩:=h.store aT ht aC pP aK;obtain⟨eJ,clock,hb,F,_,_⟩:=h;obtain⟨v0,st,Gy,aV,Gz,bb,h1,h2,bl⟩:=alA aT ht b5 hb F pP val;have ap:=h2 (setBlock w b (.map Gy aV)) (heap_setBlock_same hb _);have br:setBlock (setBlock w b (.map Gy aV)) b (.map Gz bb)=setBlock w b (.map Gz bb):=by simp[setBlock]
 have a4:D=setBlock w b (.map Gz bb):=by
  rw[bl] at ar;injection ar with _ ar
  exact ar.symm
 subst a4;exact⟨v0,st,_,_,h1,ap.trans (by rw[br]),⟨eJ,clock,Gy,aV,hb,rfl⟩,aQ,hm⟩
end
theorem Jf {L:List bw} {x:bw} (av:j<L.length):cn (L++[x]) j=cn L j:=by unfold cn;rw[Ig av]
theorem Sg {L:List bw} {x:bw}:cn (L++[x]) L.length=x:=by unfold cn;rw[FK (bY _),Dm];rfl
theorem Jg {L:List bw} (av:j<n):cn (L.take n) j=cn L j:=by unfold cn;rw[Xy av]
theorem z4 {L:List bw} {x:bw} (ag:i<L.length):cn (L.set i x) j=if j=i then x else cn L j:=by
 unfold cn;by_cases e:j=i
 ·subst e;rw[if_pos rfl,tJ ag];rfl
 ·rw[if_neg e,uM (λh=>e h.symm)]
theorem n_.push {L:List bw} (h:n_ L) {x:bw} (aC:∀j,j<L.length->(cn L j).1≠x.1):n_ (L++[x]):=λi j ag av e=>by
 rw[gW,w_] at ag av;by_cases Jh:i<L.length
 ·rw[Jf Jh] at e;by_cases kD:j<L.length
  ·rw[Jf kD] at e;exact h i j Jh kD e
  ·obtain rfl:j=L.length:=G;rw[Sg] at e;exact absurd e (aC i Jh)
 ·obtain rfl:i=L.length:=G;rw[Sg] at e;by_cases kD:j<L.length
  ·rw[Jf kD] at e;exact absurd e.symm (aC j kD)
  ·omega
theorem alC {L:List bw} (h:j_ L.length (cn L)) (x:bw):s3 (L++[x]).length (cn (L++[x])) L.length:=by
 rw[gW,w_];exact s3.push h λj av=>Jf av
theorem n_.lower {L:List bw} (h:n_ L) (ag:i<L.length) (k:Int):n_ (L.set i ((cn L i).1,k)):=λa b ha hb e=>by
 rw[gN] at ha hb;rw[z4 ag,z4 ag] at e;have q:∀j,(if j=i then((cn L i).1,k) else cn L j).1=(cn L j).1:=λj=>by split<;>simp_all
 rw[q,q] at e;exact h a b ha hb e
theorem alD {L:List bw} (h:j_ L.length (cn L)) (ag:i<L.length) {k:Int} (K:k<=(cn L i).2):s3 (L.set i ((cn L i).1,k)).length (cn (L.set i ((cn L i).1,k))) i:=by
 rw[gN];refine s3.lower h ag (λj av=>by rw[z4 ag,if_neg av]) ?_;rw[z4 ag,if_pos rfl];exact ala rfl K
theorem alE {L:List bw} (h:n_ L) (ag:i<L.length) (k:Int) (x:bw):x∈L.set i ((cn L i).1,k)↔x=((cn L i).1,k)\/(x∈L/\x.1≠(cn L i).1):=by
 rw[nb];constructor
 ·rintro⟨j,av,e⟩;rw[gN] at av;rw[z4 ag] at e;by_cases kD:j=i
  ·rw[if_pos kD] at e;exact .inl e.symm
  ·rw[if_neg kD] at e;exact .inr ⟨nb.2 ⟨j,av,e⟩,λa4=>kD (h _ _ av ag (by rw[e];exact a4))⟩
 ·rintro(rfl|⟨h1,h2⟩)
  ·exact⟨i,by rw[gN];exact ag,by rw[z4 ag,if_pos rfl]⟩
  ·obtain⟨j,av,e⟩:=nb.1 h1;exact⟨j,by rw[gN];exact av,by rw[z4 ag,if_neg (λkD=>h2 (by rw[<-e,kD]))];exact e⟩
theorem nS.lower {L:List bw} (h:nS aF L) (ag:i<L.length) (k:Int):nS aF (L.set i ((cn L i).1,k)):=by
 have q:∀j,(cn (L.set i ((cn L i).1,k)) j).1=(cn L j).1:=λj=>by rw[z4 ag];split<;>simp_all
 refine⟨λid=>?_,λj av z=>?_⟩
 ·rw[h.1,gN];simp only[q]
 ·rw[gN] at av;rw[q];exact h.2 j av z
def q3 (L:List bw):List bw:=(nQ L 0 (L.length-1)).take (L.length-1)
theorem BN (L:List bw):(q3 L).length=L.length-1:=by unfold q3;rw[lS,qY];omega
theorem n_.take {L:List bw} (h:n_ L) (n:Nat):n_ (L.take n):=λa b ha hb e=>by
 rw[lS] at ha hb;rw[Jg G,Jg G] at e;exact h a b G G e
theorem n_.pop {L:List bw} (h:n_ L) (aw:0<L.length):n_ (q3 L):=(h.swap aw G).take _
theorem ZO {L:List bw} (aw:0<L.length):cn (nQ L 0 (L.length-1)) (L.length-1)=cn L 0:=by
 rw[BJ L aw G];unfold si;rw[if_pos rfl]
theorem ZP {L:List bw} (h:n_ L) (aw:0<L.length) (x:bw):x∈q3 L↔x∈L/\x.1≠(cn L 0).1:=by
 have bS:=h.swap aw (show L.length-1<L.length by omega);have hm:=M7 aw (show L.length-1<L.length by omega) x;have Nk:=ZO aw;rw[<-hm,nb,nb,BN,qY];constructor
 ·rintro⟨j,av,e⟩;unfold q3 at e;rw[Jg av] at e;refine⟨⟨j,G,e⟩,λa4=>?_⟩;rw[<-Nk,<-e] at a4;have:=bS j (L.length-1) (by rw[qY];omega) (by rw[qY];omega) a4;omega
 ·rintro⟨⟨j,av,e⟩,h2⟩;have b9:j≠L.length-1:=λkD=>h2 (by rw[<-e,kD,Nk]);exact⟨j,G,by unfold q3;rw[Jg G];exact e⟩
theorem alF {L:List bw} (h:j_ L.length (cn L)) (aw:0<L.length):wl (q3 L).length (cn (q3 L)) 0:=by
 rw[BN];refine wl.pop (f:=cn L) (by rw[show L.length-1+1=L.length by omega];exact h) λj ku av=>?_;unfold q3;rw[Jg av,BJ L aw G];unfold si;rw[if_neg G,if_neg G]
theorem nS.Ji {L:List bw} (h:nS aF (nQ L 0 (L.length-1))) (bS:n_ L) (aw:0<L.length):nS (aF.del (hv (cn L 0).1)) (q3 L):=by
 have q:=nS.pop h (bS.swap aw (show L.length-1<L.length by omega)) (n:=L.length-1) (by rw[qY];omega);rw[ZO aw] at q;exact q
theorem ZQ {L:List bw} (h:nS aF L) (id:Int):(o6 aF (hv id)=ad/\∃i,i<L.length/\(cn L i).1=id/\∀z,aF.atKey (hv id) z= .lit (.int c i))\/(o6 aF (hv id)=ao/\∀j,j<L.length->(cn L j).1≠id):=by
 cases hh:o6 aF (hv id) with
 |true=>
  obtain⟨j,av,rfl⟩:=(h.1 id).1 hh;exact .inl ⟨rfl,j,av,rfl,λz=>h.2 j av z⟩
 |false=>exact .inr ⟨rfl,λj av e=>by rw[(h.1 id).2 ⟨j,av,e⟩] at hh;cases hh⟩
def bJ (h:bw):List ac:=[r c h.1,r c h.2]
theorem BO (h:bw):(bJ h).length=2:=rfl
theorem alG (L:List bw):(L.flatMap bJ).length=L.length*2:=by
 induction L with
 |nil=>rfl
 |cons a L d4=>rw[uJ,gW,d4,BO,fV];omega
theorem alH (L:List bw) (i:Nat) (h:bw) (ag:i<L.length):((L.flatMap bJ).set (i*2+0) (r c h.1)).set (i*2+1) (r c h.2)=(L.set i h).flatMap bJ:=by
 rw[DA 2 bJ BO L i 0 (h.1,L[i].2) (r c h.1) ag G (λx ak=>by
  rw[eA ag] at ak;obtain rfl:=eT ak;rfl)]
 rw[DA 2 bJ BO (L.set i (h.1,L[i].2)) i 1 h (r c h.2) (by rw[gN];exact ag) G (λx ak=>by
  rw[tJ ag] at ak;obtain rfl:=eT ak;rfl)]
 rw[QE]
theorem ZR (L:List bw) (i:Nat) (ag:i<L.length):(L.flatMap bJ)[i*2]? =A (r c (cn L i).1)/\(L.flatMap bJ)[i*2+1]? =A (r c (cn L i).2):=by
 induction L generalizing i with
 |nil=>simp at ag
 |cons a L d4=>
  rw[uJ];cases i with
  |zero=>exact⟨rfl,rfl⟩
  |succ i=>
   have:=d4 i (by simpa using ag);have e:cn (a::L) (i+1)=cn L i:=by unfold cn;rw[pz]
   rw[e,FK (by rw[BO];omega),FK (by rw[BO];omega),BO,show(i+1)*2-2=i*2 by omega,show(i+1)*2+1-2=i*2+1 by omega];exact this
def pQ:List Int->List Int->List Int
 |seen,[]=>seen
 |seen,x::L=>pQ (if x∈seen then seen else seen++[x]) L
def rv (seen:List Int) (x:Int):Int:=if x∈seen then(seen.idxOf x:Nat) else(seen.length:Nat)
def pd:List Int->List Int->List Int
 |_,[]=>[]
 |seen,x::L=>rv seen x::pd (if x∈seen then seen else seen++[x]) L
def l1 (L:List Int):List Int:=pd [] L
theorem Sh:∀(L seen:List Int),(pd seen L).length=L.length
 |[],_=>rfl
 |x::L,seen=>by rw[pd,fV,fV,Sh L]
theorem ZS:∀(L seen:List Int),∃aj,pQ seen L=seen++aj
 |[],seen=>⟨[],by simp[pQ]⟩
 |x::L,seen=>by
  obtain⟨aj,h⟩:=ZS L (if x∈seen then seen else seen++[x]);rw[pQ,h];split
  ·exact⟨aj,rfl⟩
  ·exact⟨[x]++aj,a3⟩
theorem ZT:∀(L seen:List Int) (x:Int),x∈seen\/x∈L->x∈pQ seen L
 |[],seen,x,h=>by
  rcases h with h|h
  ·exact h
  ·cases h
 |y::L,seen,x,h=>by
  rw[pQ];refine ZT L _ x ?_;rcases h with h|h
  ·left;split
   ·exact h
   ·exact Qz _ h
  ·rcases gg.1 h with rfl|h
   ·left;split
    ·rename_i h;exact h
    ·simp
   ·exact .inr h
theorem ZU {seen aj:List Int} {x:Int} (h:x∈seen):(seen++aj).idxOf x=seen.idxOf x:=by rw[L7,if_pos h]
theorem ZV {seen aj:List Int} {x:Int} (h:x∉seen):(seen++[x]++aj).idxOf x=seen.length:=by
 rw[Di,L7,if_neg h];simp
theorem ZW:∀(L seen:List Int),pd seen L=L.map λx=>(((pQ seen L).idxOf x:Nat):Int)
 |[],_=>rfl
 |x::L,seen=>by
  rw[pd,ZW L,zy];show rv seen x::_=_;rw[pQ]
  congr 1
  obtain⟨aj,h⟩:=ZS L (if x∈seen then seen else seen++[x]);rw[h];unfold rv;split
  ·rename_i ak;rw[ZU ak]
  ·rename_i ak;rw[ZV ak]
def wq (n:Nat):List Int:=(m8 n).map λ(i:Nat)=>(i:Int)
theorem ZX (n:Nat):wq (n+1)=wq n++[(n:Int)]:=by unfold wq;rw[Io,qc];rfl
theorem Nl {x:Int}:x∈wq n↔0<=x/\x<n:=by
 unfold wq;rw[jB];constructor
 ·rintro⟨i,ag,rfl⟩;have:=tI.1 ag;omega
 ·rintro⟨h1,h2⟩;exact⟨x.toNat,tI.2 G,G⟩
theorem ZY:∀{n k:Nat},k<n->(wq n).idxOf (k:Int)=k
 |n+1,k,h=>by
  rw[ZX];by_cases K:k<n
  ·rw[ZU (Nl.2 ⟨G,G⟩),ZY K]
  ·obtain rfl:k=n:=G;have aC:(k:Int)∉wq k:=λh=>by have:=(Nl.1 h).2;omega
   have:=ZV (aj:=[]) aC;rw[yn] at this;rw[this];unfold wq;simp
theorem Si:∀(L seen:List Int),pd (wq seen.length) (pd seen L)=pd seen L
 |[],_=>rfl
 |x::L,seen=>by
  rw[pd,pd];by_cases ak:x∈seen
  ·have K:=Ip ak;have e:rv seen x=(seen.idxOf x:Nat):=by unfold rv;rw[if_pos ak]
   have hm:((seen.idxOf x:Nat):Int)∈wq seen.length:=Nl.2 ⟨G,G⟩;rw[e,if_pos hm,if_pos ak,Si L seen];unfold rv;rw[if_pos hm,ZY K]
  ·have e:rv seen x=(seen.length:Nat):=by unfold rv;rw[if_neg ak]
   have hm:((seen.length:Nat):Int)∉wq seen.length:=λh=>by have:=(Nl.1 h).2;omega
   rw[e,if_neg hm,if_neg ak];have h2:=Si L (seen++[x]);rw[gW,w_,ZX] at h2;rw[h2];unfold rv;rw[if_neg hm]
   congr 1
   unfold wq;simp
theorem ZZ (L:List Int):l1 (l1 L)=l1 L:=Si L []
end Go.Proofs.YtnmliebconiefaaGreatDoor
