/- The walks of functions, printed by wip/tools/gw.py. -/
import Derived.Test.YtpbgmkhmdbchpaaGreatDoorWProgramCompilesB4
set_option linter.unusedVariables false
set_option linter.unusedSimpArgs false
set_option linter.unusedSectionVars false
set_option maxRecDepth 20000
namespace Go.Proofs.YtpbgmkhmdbchpaaGreatDoor
open Go Go.Sx
theorem tV (la:aO) (l:List Nd) (lc:Nat) (iI:Int) (i:Nat) (T:Tr) (w:World) (rl:cd aJ w la l lc) (lO:iI=((i:Nat):Int)) (hl:l.length≤100000) (hT:Sub l i T):
 Calls Tryz.prog 51 #[aG la l lc,ak iI] w (bj fun v w'=>∃a2,∃c2:Nat,v=aG a2 (aY T i) c2∧aE w [] w' [cg (aw .i64) 3 a2 (aY T i) c2]):=by
 subst lO
 have hi:=hT.2.1
 have hTl:=hT.le
 have M5:=eu hT.1
 have cq:=hT.root.1
 have dD:=rl.le
 refine cL Tryz.func51 (h:=fun H0=>ae 8 (h:=aM (c:=vi la l lc w (rl.at H0) hl) (k:=?_)))
 rintro _ w1 ⟨bN,cv,UB,rfl,u1,CJ⟩
 have H1:=H0.ns u1
 refine ae 11 (h:=jK (k:=ae 8 (h:=fI i (rl.at H1) (k:=ae 0 (h:=iL (rl.at H1) (k:=ae 0 (h:=nU (rl.at H1) (k:=ae 0 (h:=aM (c:=pZ _ w1) (k:=?_))))))))))
 rintro _ w2 ⟨rfl,u2⟩
 have H2:=H1.call u2
 have H3:=H2.nr (aw .i64) 3
 have H4:=H3.ps [1,0]
 refine cY 4 [8,7,6,5,4] (fun B R L m e v=>∃o:List Int,∃oa oc,∃at_ n,e=(8,ak n)::(7,ak at_)::(6,aG oa o oc)::B∧aA w L v ([cg (aw .i64) 3 oa o oc]::R)∧(GJ T i o at_ n)∧(0≤n)∧m=n.toNat) (i:=⟨([]:List Int),none,0,((i:Nat):Int)-1,cj ((l.getD i cb).kind),rfl,H4,(by rw [cq,M5];exact GJ.start T i),(by rw [cq,M5];omega),rfl⟩) (h:=?_)
 rintro m1 Γ1 w3 ⟨o,oa,oc,at_,n,rfl,H5,hK,hn,rfl⟩
 have GR:=hK.len
 refine aL 7 (fun Zf=>?_) fun Zf=>?_
 obtain ⟨ha0,hai,S,uy,QM⟩:=GJ.step hT hK oz
 have hSl:=uy.le
 have zA:=CJ.1
 have Yh:((at_.toNat:Nat):Int)=at_:=by omega
 have QK:=CJ.at uy
 refine ae 7 (h:=db (aw .i64) [at_] H5 (k:=fun w4 H6=>ae 1 (h:=fT H6 2 (H6.rt 0) (k:=fun a1 c1 w5 Vt=>?_))))
 have H7:=Vt.no
 exact ae 6 (h:=bU at_.toNat (H7.rt 1) (cN:=oz) (k:=ae 0 (h:=cn (H7.rt 1) (k:=ae 0 (h:=jK (k:=ae 6 (h:=jK (k:=b6 2 (h:=by exact ⟨[at_]++o,a1,c1,(UB.getD at_.toNat 0)-1,n-1,rfl,(H7.pm [2,1] rfl rfl),(by rw [QK,Yh];exact QM),oz,rfl⟩)))))))))
 refine bE 9 (h:=?_)
 have e:o=aY T i:=hK.fin oz
 rw [e] at H5
 exact ⟨oa,oc,(by rw [e]),(by have hh:=H5.iz 0;exact hh)⟩
theorem uI (n:Int) (w:World):
 Calls Tryz.prog 52 #[ak n] w (bj fun v w'=>v=ak (tm n)∧aE w [] w' []):=by
 refine cL Tryz.func52 (h:=fun H0=>?_)
 exact aR 8 rfl (Rh rfl rfl (bE 4 (h:=⟨rfl,H0.ag⟩)))
theorem xG (la:aO) (l:List Nd) (lc:Nat) (iI:Int) (i:Nat) (T:Tr) (N:Nat) (w:World) (rl:cd aJ w la l lc) (lO:iI=((i:Nat):Int)) (hl:l.length≤100000) (hT:Sub l i T) (bX:fo T) (hN:i<N+1) (ih:∀(la:aO) (l:List Nd) (lc:Nat) (iI:Int) (i:Nat) (T:Tr) (w:World) (rl:cd aJ w la l lc) (lO:iI=((i:Nat):Int)) (hl:l.length≤100000) (hT:Sub l i T) (bX:fo T) (cX:i<N),Calls Tryz.prog 33 #[aG la l lc,ak iI] w (bj fun v w'=>v=ak (br T)∧aE w [] w' [])):
 Calls Tryz.prog 33 #[aG la l lc,ak iI] w (bj fun v w'=>v=ak (br T)∧aE w [] w' []):=by
 subst lO
 have hi:=hT.2.1
 have dD:=rl.le
 refine cL Tryz.func33 (h:=fun H0=>ae 9 (h:=aM (c:=tV la l lc _ i T w (rl.at H0) oz hl hT) (k:=?_)))
 rintro _ w1 ⟨bN,cv,rfl,u1⟩
 have H1:=H0.ns u1
 refine ae 8 (h:=fI i (rl.at H1) (k:=ae 0 (h:=iL (rl.at H1) (k:=ae 0 (h:=nU (rl.at H1) (k:=aL 9 (fun Y9=>?_) fun Y9=>?_))))))
 obtain ⟨n5,a5,b5,gV,c0,Bm,QD,FC,SM,QC,uz,uy⟩:=mZ hT oz
 have hrA:=dR a5 uz.1 (by subst gV;exact bX.oR)
 have hrB:=dR b5 uy.1 (by subst gV;exact bX.oQ)
 refine eI 1 H1 (h:=fun w2 H2=>bY 2 2 (H2.rt 0) (D:=fun _ hC=>bU 0 hC) (h:=bY 0 3 (H2.rt 0) (D:=fun _ hC=>cn hC) (h:=bY 2 7 (H2.rt 0) (D:=fun _ hC=>bU 1 hC) (h:=bY 0 8 (H2.rt 0) (D:=fun _ hC=>cn hC) (h:=c7 0 4 (D:=aM (c:=ih la l lc _ (((aY T i).getD 0 0).toNat) _ w2 (rl.at H2) oz hl (by first|exact uz|exact uy) (by subst gV;first|exact bX.oR|exact bX.oQ|exact bX.rep) oz) (k:=?_)))))))
 rintro _ w3 ⟨rfl,u2⟩
 have H3:=H2.call u2
 refine ⟨⟨(H3.rt 0),(H3.rt 0),trivial,trivial,trivial⟩,?_⟩
 refine c7 0 9 (D:=aM (c:=ih la l lc _ (((aY T i).getD 1 0).toNat) _ w3 (rl.at H3) oz hl (by first|exact uz|exact uy) (by subst gV;first|exact bX.oR|exact bX.oQ|exact bX.rep) oz) (k:=?_))
 rintro _ w4 ⟨rfl,u3⟩
 have H4:=H3.call u3
 refine ⟨trivial,?_⟩
 refine gZ 0 10 (D:=fun _=>aX) (h:=c7 0 11 (D:=aM (c:=uI _ w4) (k:=?_)))
 rintro _ w5 ⟨rfl,u4⟩
 have H5:=H4.call u4
 refine ⟨trivial,?_⟩
 exact bE 4 (h:=⟨(by rw [gV,LV (by rw [c0];omega)]),H5.ag⟩)
 refine aL 6 (fun U6=>?_) fun U6=>?_
 obtain ⟨n5,a5,b5,gV,c0,Bm,QD,FC,SM,QC,uz,uy⟩:=mZ hT oz
 have hrA:=dR a5 uz.1 (by subst gV;exact bX.oR)
 have hrB:=dR b5 uy.1 (by subst gV;exact bX.oQ)
 refine eI 1 H1 (h:=fun w6 H6=>bY 2 2 (H6.rt 0) (D:=fun _ hC=>bU 0 hC) (h:=bY 0 3 (H6.rt 0) (D:=fun _ hC=>cn hC) (h:=bY 2 7 (H6.rt 0) (D:=fun _ hC=>bU 1 hC) (h:=bY 0 8 (H6.rt 0) (D:=fun _ hC=>cn hC) (h:=c7 0 4 (D:=aM (c:=ih la l lc _ (((aY T i).getD 0 0).toNat) _ w6 (rl.at H6) oz hl (by first|exact uz|exact uy) (by subst gV;first|exact bX.oR|exact bX.oQ|exact bX.rep) oz) (k:=?_)))))))
 rintro _ w7 ⟨rfl,u5⟩
 have H7:=H6.call u5
 refine ⟨⟨(H7.rt 0),(H7.rt 0),trivial,trivial,trivial⟩,?_⟩
 refine c7 0 9 (D:=aM (c:=ih la l lc _ (((aY T i).getD 1 0).toNat) _ w7 (rl.at H7) oz hl (by first|exact uz|exact uy) (by subst gV;first|exact bX.oR|exact bX.oQ|exact bX.rep) oz) (k:=?_))
 rintro _ w8 ⟨rfl,u6⟩
 have H8:=H7.call u6
 refine ⟨trivial,?_⟩
 refine gZ 0 10 (D:=fun _=>aX) (h:=gZ 0 11 (D:=fun _=>aX) (h:=c7 0 12 (D:=aM (c:=uI _ w8) (k:=?_))))
 rintro _ w9 ⟨rfl,u7⟩
 have H9:=H8.call u7
 refine ⟨trivial,?_⟩
 exact bE 4 (h:=⟨(by rw [gV,LU (by rw [c0];omega)]),H9.ag⟩)
 refine aL 6 (fun U5=>?_) fun U5=>?_
 obtain ⟨n5,a5,gV,c0,Bm,QD,FC,uz⟩:=yo hT oz
 have Fy:=c8.rep (n:=n5) (by subst gV;exact bX.root) (by rw [c0];omega)
 have hrA:=dR a5 uz.1 (by subst gV;exact bX.rep)
 have MR:=B3 (n:=n5) (x:=br a5) Fy ⟨by omega,hrA.2⟩
 rw [c0] at Fy MR
 refine ae 4 (h:=bU 0 (H1.rt 0) (k:=ae 0 (h:=cn (H1.rt 0) (k:=ae 0 (h:=aM (c:=ih la l lc _ (((aY T i).getD 0 0).toNat) _ w1 (rl.at H1) oz hl (by first|exact uz|exact uy) (by subst gV;first|exact bX.oR|exact bX.oQ|exact bX.rep) oz) (k:=?_))))))
 rintro _ gK ⟨rfl,u8⟩
 have bO:=H1.call u8
 refine cY 15 [8,7,6,4,0,1] (fun B R L m e v=>∃j sz,e=(8,ak j)::(7,ak sz)::B∧aA w L v (R)∧(0≤j∧j≤(l.getD i cb).lo)∧(sz=2+j*br a5)∧m=((l.getD i cb).lo-j).toNat) (i:=⟨0,2,rfl,bO,oz,(by simp),rfl⟩) (h:=?_)
 rintro m1 Γ1 iu ⟨j,sz,rfl,bR,hj,hs,rfl⟩
 have hjb:=sN (a:=j) (b:=br a5) oz oz
 refine ae 6 (h:=fI i (rl.at bR) (k:=ae 0 (h:=iL (rl.at bR) (k:=ae 0 (h:=nU (rl.at bR) (k:=aL 3 (fun c93=>?_) fun c93=>?_))))))
 exact ae 7 (h:=aX (k:=ae 6 (h:=aX (k:=nyZ 2 [8,7,6,4,0,1] (h:=by exact ⟨j+1,sz+(br _),rfl,bR,oz,(by rw [Int.add_mul,Int.one_mul];omega),rfl⟩)))))
 refine mK 2 [6,4,0,1] 0 bR (fun B R L e v=>∃sz2,e=(7,ak sz2)::B∧aA w L v (R)∧(sz2=2+(l.getD i cb).lo*br a5+(if (l.getD i cb).hi= -1 then br a5+1 else 0))) ?_ ?_
 refine ae 4 (h:=fI i (rl.at bR) (k:=ae 0 (h:=iL (rl.at bR) (k:=ae 0 (h:=nU (rl.at bR) (k:=aL 3 (fun rS=>?_) fun rS=>?_))))))
 exact ae 3 (h:=aX (k:=ae 0 (h:=aX (k:=dyZ 2 [7,6,4,0,1] (h:=by exact ⟨(sz+(br _))+1,rfl,bR,(by first|(rw [if_pos rS,hs,show j=(l.getD i cb).lo by omega];omega)|(rw [if_neg rS,hs,show j=(l.getD i cb).lo by omega];omega))⟩)))))
 exact cy 1 (h:=by exact ⟨sz,rfl,bR,(by first|(rw [if_pos rS,hs,show j=(l.getD i cb).lo by omega];omega)|(rw [if_neg rS,hs,show j=(l.getD i cb).lo by omega];omega))⟩)
 rintro Γ2 iW ⟨sz2,rfl,cm,hs2⟩
 refine ae 5 (h:=fI i (rl.at cm) (k:=ae 0 (h:=iL (rl.at cm) (k:=ae 0 (h:=nU (rl.at cm) (k:=cY 4 [9,7,6,4,0,1] (fun B R L m e v=>∃j2 sz,e=(9,ak j2)::(7,ak sz)::B∧aA w L v (R)∧((l.getD i cb).lo≤j2∧(j2≤(l.getD i cb).hi∨j2=(l.getD i cb).lo))∧(sz=2+(l.getD i cb).lo*br a5+(if (l.getD i cb).hi= -1 then br a5+1 else 0)+(j2-(l.getD i cb).lo)*(br a5+1))∧m=((l.getD i cb).hi-j2).toNat) (i:=⟨(l.getD i cb).lo,sz2,rfl,cm,oz,(by rw [Int.sub_self,Int.zero_mul,Int.add_zero];assumption),rfl⟩) (h:=?_)))))))
 rintro m2 Γ3 iV ⟨j2,afL,rfl,cW,Ab,hs3,rfl⟩
 have hjb:=sN (a:=j2-(l.getD i cb).lo) (b:=br a5+1) oz oz
 have hif:0≤(if (l.getD i cb).hi= -1 then br a5+1 else 0)∧(if (l.getD i cb).hi= -1 then br a5+1 else 0)≤1048577:=by split<;>omega
 refine ae 6 (h:=fI i (rl.at cW) (k:=ae 0 (h:=iL (rl.at cW) (k:=ae 0 (h:=nU (rl.at cW) (k:=aL 3 (fun c99=>?_) fun c99=>?_))))))
 exact ae 7 (h:=aX (k:=ae 0 (h:=aX (k:=ae 6 (h:=aX (k:=nyZ 2 [9,7,6,4,0,1] (h:=by exact ⟨j2+1,(afL+(br _))+1,rfl,cW,oz,(by rw [show j2+1-(l.getD i cb).lo=(j2-(l.getD i cb).lo)+1 by omega,Int.add_mul,Int.one_mul];omega),rfl⟩)))))))
 refine ae 5 (h:=aM (c:=uI _ iV) (k:=?_))
 rintro _ lT ⟨rfl,u9⟩
 have cH:=cW.call u9
 exact bE 4 (h:=⟨(by rw [gV,LQ (n:=n5) (j:=j2) (by rw [c0];exact Fy) (by rw [c0];exact Ab) (by rw [c0];exact c99) (by rw [c0];exact hs3)]),cH.ag⟩)
 refine bE 9 (h:=?_)
 obtain ⟨n5,gV,_⟩:=lj hT oz
 exact ⟨(by rw [gV];rfl),H1.ag⟩
theorem zP (N:Nat):∀(la:aO) (l:List Nd) (lc:Nat) (iI:Int) (i:Nat) (T:Tr) (w:World) (rl:cd aJ w la l lc) (lO:iI=((i:Nat):Int)) (hl:l.length≤100000) (hT:Sub l i T) (bX:fo T) (cX:i<N),Calls Tryz.prog 33 #[aG la l lc,ak iI] w (bj fun v w'=>v=ak (br T)∧aE w [] w' []):=by
 induction N with
 | zero=>intro la l lc iI i T w rl lO hl hT bX cX;omega
 | succ N ih=>intro la l lc iI i T w rl lO hl hT bX cX;exact xG la l lc iI i T N w rl lO hl hT bX cX ih
theorem A0 (la:aO) (l:List Nd) (lc:Nat) (iI:Int) (i:Nat) (T:Tr) (w:World) (rl:cd aJ w la l lc) (lO:iI=((i:Nat):Int)) (hl:l.length≤100000) (hT:Sub l i T) (bX:fo T):
 Calls Tryz.prog 33 #[aG la l lc,ak iI] w (bj fun v w'=>v=ak (br T)∧aE w [] w' []):=zP (i+1) la l lc iI i T w rl lO hl hT bX oz
theorem Na (la:aO) (l:List Nd) (lc:Nat) (w:World) (rl:cd aJ w la l lc):
 Calls Tryz.prog 109 #[aG la l lc] w (bj fun v w'=>∃z0,v=ak z0∧aE w [] w' []∧(Vp l z0)∧(z0= -1∨l.length≤512)):=by
 have dD:=rl.le
 refine cL Tryz.func109 (h:=fun H0=>ae 9 (h:=aM (c:=q6 la l lc w (rl.at H0)) (k:=?_)))
 rintro _ w1 ⟨rfl,u1⟩
 have H1:=H0.call u1
 refine cS 3 (fun tv=>?_) fun tv=>?_
 exact bE 6 (h:=⟨-1,rfl,H1.ag,(.inl ⟨by simpa using tv,rfl⟩),(.inl rfl)⟩)
 have H2:=H1.nr (aw .i64) 3
 refine cY 16 [15,3,14,13,2] (fun B R L m e v=>∃k,∃st:List Int,∃ta tc,e=(15,bJ k)::(3,aG ta st tc)::B∧aA w L v ([cg (aw .i64) 3 ta st tc]::R)∧(k≤l.length)∧(wi l k st)∧(st.length≤k)∧m=l.length-k) (i:=⟨0,([]:List Int),none,0,rfl,H2,om,(by exact wi.start l),(by simp),rfl⟩) (h:=?_)
 rintro m1 Γ1 w2 ⟨k,st,ta,tc,rfl,H3,hk,hF,hsl,rfl⟩
 refine aL 6 (fun Zs=>?_) fun Zs=>?_
 refine ae 6 (h:=fI k (rl.at H3) (k:=ae 0 (h:=zt (rl.at H3) (k:=ae 0 (h:=da H3 (k:=fun w3 H4=>aU 0 (h:=bC H4 1 (k:=fun w4 H5=>?_))))))))
 have hRP:oy l:=fi.1 (by simpa using tv)
 obtain ⟨T,q,hT,Ub,hqe,IC,wI,hF2,cq,hqk⟩:=hF.step hRP oz
 have am9:=hRP.1
 have har:=pK (l.getD k cb).kind
 have hdl:(st.drop q).length=st.length-q:=by simp
 have MN:∀m,m<(st.drop q).length→2≤(st.drop q).getD m 0∧(st.drop q).getD m 0≤1048576:=by rw [wI];exact Qj hT.1 Ub
 refine ae 7 (h:=aH (H5.b 1) (k:=ae 0 (h:=aM (c:=tz _ w4) (k:=?_))))
 rintro _ w5 ⟨rfl,u4⟩
 have H6:=H5.call u4
 refine ae 0 (h:=jK (k:=?_))
 refine aR 13 rfl (W0 q (T:=(aw .i64)) (xs:=st) rfl Tryz.underlying25 zM rfl rfl rfl oz oz (xY (H6.ow 0)) fun sa1 sc1 rs1=>cY 5 [29,7,28,27,6,5,15,3,14,13,2] (fun B R L m e v=>∃mq sz,e=(29,bJ mq)::(7,ak sz)::B∧aA w L v (R)∧(mq≤(st.drop q).length)∧(sz=2+He ((st.drop q).take mq))∧(2≤sz∧sz≤2+1048576*mq)∧m=(st.drop q).length-mq) (i:=⟨0,2,rfl,H6,oz,rfl,(by simp),rfl⟩) (h:=?_))
 rintro m2 Γ2 w6 ⟨mq,sz,rfl,H7,hm,DF,hsb,rfl⟩
 have hxm:=MN mq
 refine aL 6 (fun Jl=>?_) fun Jl=>?_
 exact ae 6 (h:=bU mq (rs1 _ (H7.rt 0)) (cN:=oz) (k:=ae 0 (h:=cn (rs1 _ (H7.rt 0)) (k:=ae 6 (h:=aX (h1:=(by have h9:=hxm oz;omega)) (h2:=(by have h9:=hxm oz;omega)) (k:=ae 5 (h:=aX (k:=b6 2 (h:=by exact ⟨mq+1,sz+((st.drop q).getD mq 0),rfl,H7,oz,(by rw [q8 (st.drop q) oz,LM,DF];omega),(by have h9:=MN mq oz;omega),rfl⟩)))))))))
 refine mK 2 [6,15,3,14,13,2] 0 H7 (fun B R L e v=>∃z,e=(7,ak z)::B∧aA w L v (R)∧(br T=min z 1048576)∧(-100000000≤z∧z≤100000000)) ?_ ?_
 have NS:sz=2+OG T:=by rw [DF,List.take_of_length_le oz,wI];rfl
 refine ae 4 (h:=aH (H7.b 1) (k:=aL 4 (fun oo=>?_) fun oo=>?_))
 exact ae 2 (h:=jK (k:=cy 3 (h:=by exact ⟨sz-2,rfl,H7,(by first|(exfalso;omega)|(rw [NS];exact (mP hT.1 (by rw [cq];exact oo)).symm)|(rw [←dt hT.1 (by rw [cq];exact mC),←wI,cU,cq];unfold eB;rw [if_pos uK])|(rw [←dt hT.1 (by rw [cq];exact mC),←wI,cU,cq];unfold eB;rw [if_neg uK])|(rw [←dt hT.1 (by rw [cq];exact kA),←wI,cU,cq];unfold eB;rw [if_neg oz])|(rw [NS];exact (k6 hT.1 (by rw [cq];exact oo) (by rw [cq];first|exact mC|exact kA)).symm)),oz⟩)))
 refine ae 3 (h:=aH (H7.b 1) (k:=bZ 2 47 (fun mC=>?_) fun mC=>?_))
 refine ae 1 (h:=aH (H7.b 1) (k:=aL 5 (fun uK=>?_) fun uK=>?_))
 have ha1:cj (l.getD k cb).kind=1:=by rw [mC];rfl
 have KJ:=MN 0 oz
 rw [cU] at KJ
 have Fy:=c8.rep (n:=(l.getD k cb)) (by rw [←cq];exact Ub.root) mC
 have hmb:=sN (a:=(l.getD k cb).lo+1) (b:=st.getD q 0) oz oz
 exact eI 0 H7 (h:=fun w7 H8=>cP 1 1 (H8.b 1) (D:=fun _ hC=>aH hC) (h:=gZ 0 2 (D:=fun _=>aX) (h:=bY 2 5 (H8.rt 0) (D:=fun _ hC=>bU q hC (cN:=oz)) (h:=bY 0 6 (H8.rt 0) (D:=fun _ hC=>cn hC) (h:=gZ 0 7 (D:=fun _=>GP) (h:=gZ 0 8 (D:=fun _=>aX) (h:=cy 3 (h:=by exact ⟨3+((((l.getD k cb).lo)+1)*(st.getD q 0)),rfl,H8,(by first|(exfalso;omega)|(rw [NS];exact (mP hT.1 (by rw [cq];exact oo)).symm)|(rw [←dt hT.1 (by rw [cq];exact mC),←wI,cU,cq];unfold eB;rw [if_pos uK])|(rw [←dt hT.1 (by rw [cq];exact mC),←wI,cU,cq];unfold eB;rw [if_neg uK])|(rw [←dt hT.1 (by rw [cq];exact kA),←wI,cU,cq];unfold eB;rw [if_neg oz])|(rw [NS];exact (k6 hT.1 (by rw [cq];exact oo) (by rw [cq];first|exact mC|exact kA)).symm)),oz⟩))))))))
 refine ae 3 (h:=aH (H7.b 1) (k:=aL 4 (fun kA=>?_) fun kA=>?_))
 have ha1:cj (l.getD k cb).kind=1:=by rw [kA];rfl
 have KJ:=MN 0 oz
 rw [cU] at KJ
 have Fy:=c8.rep (n:=(l.getD k cb)) (by rw [←cq];exact Ub.root) kA
 have hmb:=sN (a:=(l.getD k cb).hi) (b:=st.getD q 0) oz oz
 exact eI 0 H7 (h:=fun w8 H9=>cP 1 1 (H9.b 1) (D:=fun _ hC=>aH hC) (h:=bY 2 4 (H9.rt 0) (D:=fun _ hC=>bU q hC (cN:=oz)) (h:=bY 0 5 (H9.rt 0) (D:=fun _ hC=>cn hC) (h:=gZ 0 6 (D:=fun _=>GP) (h:=gZ 0 7 (D:=fun _=>aX) (h:=cP 1 9 (H9.b 1) (D:=fun _ hC=>aH hC) (h:=gZ 0 10 (D:=fun _=>aX) (h:=cP 1 12 (H9.b 1) (D:=fun _ hC=>aH hC) (h:=gZ 0 13 (D:=fun _=>jK) (h:=cy 3 (h:=by exact ⟨((2+(((l.getD k cb).hi)*(st.getD q 0)))+((l.getD k cb).hi))-((l.getD k cb).lo),rfl,H9,(by first|(exfalso;omega)|(rw [NS];exact (mP hT.1 (by rw [cq];exact oo)).symm)|(rw [←dt hT.1 (by rw [cq];exact mC),←wI,cU,cq];unfold eB;rw [if_pos uK])|(rw [←dt hT.1 (by rw [cq];exact mC),←wI,cU,cq];unfold eB;rw [if_neg uK])|(rw [←dt hT.1 (by rw [cq];exact kA),←wI,cU,cq];unfold eB;rw [if_neg oz])|(rw [NS];exact (k6 hT.1 (by rw [cq];exact oo) (by rw [cq];first|exact mC|exact kA)).symm)),oz⟩)))))))))))
 exact cy 2 (h:=by exact ⟨sz,rfl,H7,(by first|(exfalso;omega)|(rw [NS];exact (mP hT.1 (by rw [cq];exact oo)).symm)|(rw [←dt hT.1 (by rw [cq];exact mC),←wI,cU,cq];unfold eB;rw [if_pos uK])|(rw [←dt hT.1 (by rw [cq];exact mC),←wI,cU,cq];unfold eB;rw [if_neg uK])|(rw [←dt hT.1 (by rw [cq];exact kA),←wI,cU,cq];unfold eB;rw [if_neg oz])|(rw [NS];exact (k6 hT.1 (by rw [cq];exact oo) (by rw [cq];first|exact mC|exact kA)).symm)),oz⟩)
 refine ae 11 (h:=aH (H7.b 1) (k:=aL 4 (fun kA=>?_) fun kA=>?_))
 have ha1:cj (l.getD k cb).kind=1:=by rw [kA];rfl
 have KJ:=MN 0 oz
 rw [cU] at KJ
 have Fy:=c8.rep (n:=(l.getD k cb)) (by rw [←cq];exact Ub.root) kA
 have hmb:=sN (a:=(l.getD k cb).hi) (b:=st.getD q 0) oz oz
 exact eI 0 H7 (h:=fun w9 bO=>cP 1 1 (bO.b 1) (D:=fun _ hC=>aH hC) (h:=bY 2 4 (bO.rt 0) (D:=fun _ hC=>bU q hC (cN:=oz)) (h:=bY 0 5 (bO.rt 0) (D:=fun _ hC=>cn hC) (h:=gZ 0 6 (D:=fun _=>GP) (h:=gZ 0 7 (D:=fun _=>aX) (h:=cP 1 9 (bO.b 1) (D:=fun _ hC=>aH hC) (h:=gZ 0 10 (D:=fun _=>aX) (h:=cP 1 12 (bO.b 1) (D:=fun _ hC=>aH hC) (h:=gZ 0 13 (D:=fun _=>jK) (h:=cy 3 (h:=by exact ⟨((2+(((l.getD k cb).hi)*(st.getD q 0)))+((l.getD k cb).hi))-((l.getD k cb).lo),rfl,bO,(by first|(exfalso;omega)|(rw [NS];exact (mP hT.1 (by rw [cq];exact oo)).symm)|(rw [←dt hT.1 (by rw [cq];exact mC),←wI,cU,cq];unfold eB;rw [if_pos uK])|(rw [←dt hT.1 (by rw [cq];exact mC),←wI,cU,cq];unfold eB;rw [if_neg uK])|(rw [←dt hT.1 (by rw [cq];exact kA),←wI,cU,cq];unfold eB;rw [if_neg oz])|(rw [NS];exact (k6 hT.1 (by rw [cq];exact oo) (by rw [cq];first|exact mC|exact kA)).symm)),oz⟩)))))))))))
 exact cy 2 (h:=by exact ⟨sz,rfl,H7,(by first|(exfalso;omega)|(rw [NS];exact (mP hT.1 (by rw [cq];exact oo)).symm)|(rw [←dt hT.1 (by rw [cq];exact mC),←wI,cU,cq];unfold eB;rw [if_pos uK])|(rw [←dt hT.1 (by rw [cq];exact mC),←wI,cU,cq];unfold eB;rw [if_neg uK])|(rw [←dt hT.1 (by rw [cq];exact kA),←wI,cU,cq];unfold eB;rw [if_neg oz])|(rw [NS];exact (k6 hT.1 (by rw [cq];exact oo) (by rw [cq];first|exact mC|exact kA)).symm)),oz⟩)
 rintro Γ3 gK ⟨z,rfl,bR,hz,XI⟩
 refine aR 3 rfl (D8 (((st.length:Nat):Int)-(cj ((l.getD k cb).kind))) q (T:=(aw .i64)) (e:=3) (xs:=st) rfl Tryz.underlying25 zM rfl rfl (bR.ow 0) oz oz fun iu u5=>?_)
 have cm:=bR.un 0 u5
 refine aR 1 rfl (Rh rfl rfl (ae 0 (h:=db (aw .i64) [min z 1048576] cm (k:=fun iW cW=>ae 0 (h:=fT cW 0 (cW.rt 2) (k:=fun a1 c1 iV ZX=>?_))))))
 have cH:=(ZX.drop 2).no
 exact ae 5 (h:=aX (k:=b6 2 (h:=by exact ⟨k+1,(st.take q)++[min z 1048576],a1,c1,rfl,(cH.pm [0] rfl rfl),om,(by rw [hz] at hF2;exact hF2),gv,rfl⟩)))
 have hRP:oy l:=fi.1 (by simpa using tv)
 obtain ⟨yw,hs2⟩:=hF.YK hRP oz
 exact ae 5 (h:=bU 0 (H3.rt 0) (k:=ae 0 (h:=cn (H3.rt 0) (k:=bE 4 (h:=⟨st.getD 0 0,rfl,H3.ag,hs2,(.inr hRP.1)⟩)))))
theorem xj (g:Nat) (la:aO) (l:List Nd) (lc:Nat) (oa:aO) (o:List Nd) (oc:Nat) (iI:Int) (i:Nat) (T:Tr) (N:Nat) (w:World) (hp:Hp w [bm g #[aG la l lc,aG oa o oc] 149,cg aJ 89 oa o oc]) (rl:cd aJ w la l lc) (lO:iI=((i:Nat):Int)) (hT:Sub l i T) (hl:l.length≤512) (ho:o.length+T.flat.length≤1024) (dJ:fb (aG la l lc) [bm g #[aG la l lc,aG oa o oc] 149,cg aJ 89 oa o oc]) (hN:i<N+1) (ih:∀(g:Nat) (la:aO) (l:List Nd) (lc:Nat) (oa:aO) (o:List Nd) (oc:Nat) (iI:Int) (i:Nat) (T:Tr) (w:World) (hp:Hp w [bm g #[aG la l lc,aG oa o oc] 149,cg aJ 89 oa o oc]) (rl:cd aJ w la l lc) (lO:iI=((i:Nat):Int)) (hT:Sub l i T) (hl:l.length≤512) (ho:o.length+T.flat.length≤1024) (dJ:fb (aG la l lc) [bm g #[aG la l lc,aG oa o oc] 149,cg aJ 89 oa o oc]) (cX:i<N),Calls Tryz.prog 82 #[.pointer (some ⟨g,0,none⟩),ak iI] w (bj fun v w'=>∃gD,∃gC:Nat,v= .tuple #[]∧aE w [bm g #[aG la l lc,aG oa o oc] 149,cg aJ 89 oa o oc] w' [bm g #[aG la l lc,aG gD (o++(bz T).flat) gC] 149,cg aJ 89 gD (o++(bz T).flat) gC])):
 Calls Tryz.prog 82 #[.pointer (some ⟨g,0,none⟩),ak iI] w (bj fun v w'=>∃gD,∃gC:Nat,v= .tuple #[]∧aE w [bm g #[aG la l lc,aG oa o oc] 149,cg aJ 89 oa o oc] w' [bm g #[aG la l lc,aG gD (o++(bz T).flat) gC] 149,cg aJ 89 gD (o++(bz T).flat) gC]):=by
 subst lO
 have hi:=hT.2.1
 have hTl:=hT.le
 have cq:=hT.root.1
 have dD:=rl.le
 refine uZ hp Tryz.func82 (h:=fun H0=>ae 5 (h:=aH (H0.b 0) (k:=ae 1 (h:=aM (c:=AI la l lc _ i T w (rl.keep H0.keep dJ) oz hT) (k:=?_)))))
 rintro _ w1 ⟨bN,cv,rfl,u1⟩
 have H1:=H0.ns u1
 refine ae 8 (h:=aH (H1.b 0) (k:=ae 1 (h:=fI i (rl.keep H1.keep dJ) (k:=ae 0 (h:=zt (rl.keep H1.keep dJ) (k:=ae 0 (h:=da H1 (k:=fun w2 H2=>aU 0 (h:=bC H2 3 (k:=fun w3 H3=>?_))))))))))
 have H4:=H3.ps [2,3,0,1]
 refine mK 2 [5,4,0] 2 H4 (fun B R L e v=>∃kk:List Int,∃nk,e=B∧aA w L v ([aj (aw .i64) (aG bN (aY T i) cv) 3 kk]::[bm w1.heap.size #[ak nk,av ((l.getD i cb).set).w0,av ((l.getD i cb).set).w1,av ((l.getD i cb).set).w2,av ((l.getD i cb).set).w3,ak ((l.getD i cb).lo),ak ((l.getD i cb).hi)] 89]::R)∧(kk=kJ T i)∧(nk=(jb (l.getD i cb)).kind)) ?_ ?_
 refine ae 3 (h:=aH (H4.b 1) (k:=aL 9 (fun C9=>?_) fun C9=>?_))
 refine ae 2 (h:=aM (c:=vj bN (aY T i) _ ((aY T i).length) w3 (H4.dH 0) rfl (by rw [nf];have:=CA T;omega)) (k:=?_))
 rintro _ w4 ⟨rfl,u4⟩
 have H5:=H4.un 0 u4
 exact cy 2 (h:=by exact ⟨(aY T i).reverse,(l.getD i cb).kind,rfl,H5,(by first|exact (if_pos (by rw [←cq];exact C9)).symm|exact (if_neg (by rw [←cq];exact C9)).symm),(by unfold jb;first|(rw [if_pos uJ];done)|(rw [if_neg uJ,if_pos Gp];done)|(rw [if_neg uJ,if_neg Gp];done)|(rw [if_neg oz,if_neg oz];done))⟩)
 refine aL 6 (fun uJ=>?_) fun uJ=>?_
 exact aU 2 (h:=jA H4 1 (k:=fun w5 H6=>cy 2 (h:=by exact ⟨aY T i,4,rfl,H6,(by first|exact (if_pos (by rw [←cq];exact C9)).symm|exact (if_neg (by rw [←cq];exact C9)).symm),(by unfold jb;first|(rw [if_pos uJ];done)|(rw [if_neg uJ,if_pos Gp];done)|(rw [if_neg uJ,if_neg Gp];done)|(rw [if_neg oz,if_neg oz];done))⟩)))
 refine aL 6 (fun Gp=>?_) fun Gp=>?_
 exact aU 2 (h:=jA H4 1 (k:=fun w6 H7=>cy 2 (h:=by exact ⟨aY T i,3,rfl,H7,(by first|exact (if_pos (by rw [←cq];exact C9)).symm|exact (if_neg (by rw [←cq];exact C9)).symm),(by unfold jb;first|(rw [if_pos uJ];done)|(rw [if_neg uJ,if_pos Gp];done)|(rw [if_neg uJ,if_neg Gp];done)|(rw [if_neg oz,if_neg oz];done))⟩)))
 exact cy 2 (h:=by exact ⟨aY T i,(l.getD i cb).kind,rfl,H4,(by first|exact (if_pos (by rw [←cq];exact C9)).symm|exact (if_neg (by rw [←cq];exact C9)).symm),(by unfold jb;first|(rw [if_pos uJ];done)|(rw [if_neg uJ,if_pos Gp];done)|(rw [if_neg uJ,if_neg Gp];done)|(rw [if_neg oz,if_neg oz];done))⟩)
 rintro Γ1 w7 ⟨kk,nk,rfl,H8,KQ,SL⟩
 have H9:=H8.ps [2,3,0,1]
 refine cY 9 [35,34,33,5,0] (fun B R L m e v=>∃k,∃qo:List Nd,∃qa qc,e=(35,bJ k)::B∧aA w L v ([bm g #[aG la l lc,aG qa qo qc] 149]::[cg aJ 89 qa qo qc]::R)∧(k≤kk.length)∧(qo=o++bG ((bz T).kids.take k))∧m=kk.length-k) (i:=⟨0,o,oa,oc,rfl,H9,om,xi,rfl⟩) (h:=?_)
 rintro m1 Γ2 w8 ⟨k,qo,qa,qc,rfl,bO,hk,hq,rfl⟩
 have amp:kk.length=(aY T i).length:=by rw [KQ];exact rv T i
 have tK:=CA T
 have amo:=nf T i
 refine aL 6 (fun rU=>?_) fun rU=>?_
 refine ae 6 (h:=bU k (bO.rt 2) (k:=ae 0 (h:=cn (bO.rt 2) (k:=?_))))
 obtain ⟨KJ,hxi,S,hS,QM⟩:=Fl hT (m:=k) (by rw [←KQ];omega)
 rw [←KQ] at KJ hxi hS
 have Bm:=qh T i
 have IC:=AM hT.1 (k:=k) (S:=S) QM
 have hqn:qo.length=o.length+(bG ((bz T).kids.take k)).length:=by rw [hq,List.length_append]
 have bR:aA _ _ _ [[_,_],[_],[_]]:=aA.of (aE.j7 bO (l:=[0,1,2,3]) rfl rfl) rfl
 refine ae 6 (h:=aM (c:=ih _ la l lc qa qo qc _ ((kk.getD k 0).toNat) S w8 (bR.dH 0) (rl.keep bR.keep dJ) oz hS oz oz (fb.of dJ rl oz bR 0 rfl) oz) (k:=?_))
 rintro _ w9 ⟨fz,fy,rfl,u7⟩
 have cm:=bR.un 0 u7
 exact ae 4 (h:=aX (k:=b6 2 (h:=by exact ⟨k+1,qo++(bz S).flat,fz,fy,rfl,(cm.re rfl),om,(by rw [hq,QM,bV,cz,List.append_assoc]),rfl⟩)))
 have hqn:qo.length+1≤o.length+T.flat.length:=by have h8:=qW (bz T).kids k;have h9:=BT hT.1;rw [hq,List.length_append];omega
 have hqe:qo++[(⟨nk,(l.getD i cb).set,(l.getD i cb).lo,(l.getD i cb).hi⟩:Nd)]=o++(bz T).flat:=by rw [hq,List.take_of_length_le (by rw [←qh T i,←KQ];omega),AD hT.1,D1 SL,cq,List.append_assoc]
 refine eI 2 bO (h:=fun gK cW=>cP 4 4 (cW.b 0) (D:=fun _ hC=>aH hC) (h:=cP 0 5 (cW.b 3) (D:=fun _ hC=>b8 hC) (h:=c7 0 6 (D:=db aJ ([(⟨nk,(l.getD i cb).set,(l.getD i cb).lo,(l.getD i cb).hi⟩:Nd)]:List Nd) cW (k:=fun iu cH=>?_)))))
 refine ⟨⟨(cH.b 0),trivial,trivial,trivial,trivial,trivial⟩,?_⟩
 refine c7 0 7 (D:=fT cH 1 (cH.rt 4) (k:=fun a1 c1 iW ZW=>?_))
 have cI:=(ZW.drop 4).no
 refine ⟨⟨trivial,trivial⟩,?_⟩
 refine c7 2 10 (D:=jA cI 0 (k:=fun iV cT=>?_))
 refine ⟨trivial,?_⟩
 refine GN 1 (h:=?_)
 rw [hqe] at cT
 exact ⟨a1,c1,rfl,(cT.se [0,1])⟩
theorem zL (N:Nat):∀(g:Nat) (la:aO) (l:List Nd) (lc:Nat) (oa:aO) (o:List Nd) (oc:Nat) (iI:Int) (i:Nat) (T:Tr) (w:World) (hp:Hp w [bm g #[aG la l lc,aG oa o oc] 149,cg aJ 89 oa o oc]) (rl:cd aJ w la l lc) (lO:iI=((i:Nat):Int)) (hT:Sub l i T) (hl:l.length≤512) (ho:o.length+T.flat.length≤1024) (dJ:fb (aG la l lc) [bm g #[aG la l lc,aG oa o oc] 149,cg aJ 89 oa o oc]) (cX:i<N),Calls Tryz.prog 82 #[.pointer (some ⟨g,0,none⟩),ak iI] w (bj fun v w'=>∃gD,∃gC:Nat,v= .tuple #[]∧aE w [bm g #[aG la l lc,aG oa o oc] 149,cg aJ 89 oa o oc] w' [bm g #[aG la l lc,aG gD (o++(bz T).flat) gC] 149,cg aJ 89 gD (o++(bz T).flat) gC]):=by
 induction N with
 | zero=>intro g la l lc oa o oc iI i T w hp rl lO hT hl ho dJ cX;omega
 | succ N ih=>intro g la l lc oa o oc iI i T w hp rl lO hT hl ho dJ cX;exact xj g la l lc oa o oc iI i T N w hp rl lO hT hl ho dJ cX ih
theorem LH (g:Nat) (la:aO) (l:List Nd) (lc:Nat) (oa:aO) (o:List Nd) (oc:Nat) (iI:Int) (i:Nat) (T:Tr) (w:World) (hp:Hp w [bm g #[aG la l lc,aG oa o oc] 149,cg aJ 89 oa o oc]) (rl:cd aJ w la l lc) (lO:iI=((i:Nat):Int)) (hT:Sub l i T) (hl:l.length≤512) (ho:o.length+T.flat.length≤1024) (dJ:fb (aG la l lc) [bm g #[aG la l lc,aG oa o oc] 149,cg aJ 89 oa o oc]):
 Calls Tryz.prog 82 #[.pointer (some ⟨g,0,none⟩),ak iI] w (bj fun v w'=>∃gD,∃gC:Nat,v= .tuple #[]∧aE w [bm g #[aG la l lc,aG oa o oc] 149,cg aJ 89 oa o oc] w' [bm g #[aG la l lc,aG gD (o++(bz T).flat) gC] 149,cg aJ 89 gD (o++(bz T).flat) gC]):=zL (i+1) g la l lc oa o oc iI i T w hp rl lO hT hl ho dJ oz
theorem G9 (la:aO) (l:List Nd) (lc:Nat) (w:World) (rl:cd aJ w la l lc):
 Calls Tryz.prog 57 #[aG la l lc] w (bj fun v w'=>∃a2 c2,∃o:List Nd,∃er,v= .tuple #[aG a2 o c2,ak er]∧aE w [] w' [cg aJ 89 a2 o c2]∧(aet l o er)):=by
 have dD:=rl.le
 refine cL Tryz.func57 (h:=fun H0=>ae 10 (h:=aM (c:=q6 la l lc w (rl.at H0)) (k:=?_)))
 rintro _ w1 ⟨rfl,u1⟩
 have H1:=H0.call u1
 refine cS 3 (fun C7=>?_) fun C7=>?_
 exact gr 7 (h:=⟨none,0,[],3,rfl,ej H1,(.inl ⟨by simpa using C7,rfl,rfl⟩)⟩)
 refine ae 5 (h:=ck (k:=ae 0 (h:=gI H1 (k:=fun w2 H2=>?_))))
 obtain ⟨hl5,zy,T,yv,rR⟩:=fi.1 (show cO l=true by simpa using C7)
 have hp5:=dK T
 have Yi:T.flat.length=l.length:=by rw [rR]
 have Wj:Sub l (l.length-1) T:=by have h9:=Sub.self yv;rw [rR] at h9;exact h9
 refine ae 8 (h:=jK (k:=?_))
 have H3:=H2.nr aJ 89
 have H4:aA _ _ _ [[_,_]]:=aA.of (aE.j7 H3 (l:=[0,1]) rfl rfl) rfl
 refine ae 0 (h:=aM (c:=LH _ la l lc none ([]:List Nd) 0 _ (l.length-1) T w2 (H4.dH 0) (rl.at H4) oz Wj oz gv (fb.of (fb.nil _) rl oz H4 0 rfl)) (k:=?_))
 rintro _ w3 ⟨fz,fy,rfl,u3⟩
 have H5:=H4.un 0 u3
 refine ae 7 (h:=aH ((H5.dH 0).bm (List.mem_of_getElem? (i:=0) rfl)) (k:=gr 5 (h:=?_)))
 have H6:=H5.sn
 exact ⟨fz,fy,([]:List Nd)++(bz T).flat,0,rfl,H6.iz 1,(.inr ⟨T,yv,rR,fun n hn=>zy n (by rw [←rR];exact hn),by simp,rfl⟩)⟩
theorem L3 (la:aO) (l:List Nd) (lc:Nat) (T:Tr) (w:World) (rl:cd aJ w la l lc) (hT:Sub l (l.length-1) T) (hl:l.length≤512) (jS:∀j,j<l.length→∃S,Sub l j S):
 Calls Tryz.prog 62 #[aG la l lc] w (bj fun v w'=>∃a2 c2,∃n2:Nat,v= .slice a2 n2 c2∧aE w [] w' [aj aJ (.slice a2 n2 c2) 89 ((bz T).flat)]):=by
 have dD:=rl.le
 refine cL Tryz.func62 (h:=fun H0=>?_)
 have H1:=H0.nw (aE.kR (bh aJ 89).row w)
 have H2:=H1.nr (aW:Ty (LR Nd)) 24
 refine cY 17 [4,3,2,0] (fun B R L m e v=>∃k,∃ps:List (LR Nd),∃zr zp,e=(4,bJ k)::(3,aG zr ps zp)::B∧aA w L v ([aC (bh aJ 89).row ps]::[cg aW 24 zr ps zp]::R)∧(k≤l.length)∧(PtI l k ps)∧m=l.length-k) (i:=⟨0,([]:List (LR Nd)),none,0,rfl,H2,om,(by exact ⟨rfl,fun j hj=>by omega⟩),rfl⟩) (h:=?_)
 rintro m1 Γ1 w1 ⟨k,ps,zr,zp,rfl,H3,hk,hP,rfl⟩
 have MT:=hP.1
 refine aL 9 (fun c12=>?_) fun c12=>?_
 obtain ⟨S,hS⟩:=jS k oz
 have hkS:=CA S
 have Bm:=nf S k
 have hrS:=hS.root.1
 have hSl:=hS.le
 have htz:=BT hS.1
 refine ae 8 (h:=aM (c:=tV la l lc _ k S w1 (rl.at H3) oz oz hS) (k:=?_))
 rintro _ w2 ⟨bN,cv,rfl,u1⟩
 have H4:Uu3:=(H3.im u1).re rfl
 refine ae 7 (h:=fI k (rl.at H4) (k:=ae 0 (h:=zt (rl.at H4) (k:=ae 0 (h:=da H4 (k:=fun w3 H5=>aU 0 (h:=bC H5 3 (k:=fun w4 H6=>?_))))))))
 have H7:=H6.nr aJ 89
 have H8:=H7.ps [4,0,1,2,3]
 refine mK 7 [6,4,3,2,0] 1 H8 (fun B R L e v=>∃xs:List Nd,∃xa xc,e=(7,aG xa xs xc)::B∧aA w L v ([cg aJ 89 xa xs xc]::R)∧(xs=bG (bz S).kids)) ?_ ?_
 refine ae 3 (h:=aH (H8.b 4) (k:=aL 3 (fun mL=>?_) fun mL=>?_))
 obtain ⟨n5,a5,b5,gV,c0,amn,QD,FC,SM,QC,uz,uy⟩:=mZ hS (.inl mL)
 have KJ:=hP.at oz uz
 have hx1:=hP.at oz uy
 have hz0:=congrArg List.length KJ
 have SI:=congrArg List.length hx1
 rw [gY] at hz0 SI
 have GX:=uz.le
 have KW:=uy.le
 have acL:bG (bz S).kids=(bz b5).flat++(bz a5).flat:=by rw [gV];exact Om (by rw [c0];exact mL)
 refine ae 5 (h:=bU 1 (H8.rt 3) (k:=ae 0 (h:=cn (H8.rt 3) (k:=ae 0 (h:=bU (((aY S k).getD 1 0).toNat) (H8.rt 2) (cN:=oz) (k:=ae 0 (h:=cn (H8.rt 2) (k:=?_))))))))
 refine aR 0 rfl (dQ (T:=aJ) (xs:=([]:List Nd)) (ys:=((ps.getD (((aY S k).getD 1 0).toNat) ai).xs)) rfl Tryz.underlying24 Ea rfl rfl rfl rfl (H8.ow 0) (show bH aJ w4 (.slice ((ps.getD (((aY S k).getD 1 0).toNat) ai).a) ((ps.getD (((aY S k).getD 1 0).toNat) ai).n) ((ps.getD (((aY S k).getD 1 0).toNat) ai).c)) ((ps.getD (((aY S k).getD 1 0).toNat) ai).xs) from (ga.own (H8.cB 1 rfl)).get ai (((aY S k).getD 1 0).toNat) oz) b9 b9 fun a1 c1 w5 u4=>?_)
 have H9:=H8.un 0 u4
 refine ae 7 (h:=bU 0 (H9.rt 3) (k:=ae 0 (h:=cn (H9.rt 3) (k:=ae 0 (h:=bU (((aY S k).getD 0 0).toNat) (H9.rt 2) (cN:=oz) (k:=ae 0 (h:=cn (H9.rt 2) (k:=?_))))))))
 refine aR 0 rfl (dQ (T:=aJ) (xs:=(([]:List Nd)++((ps.getD (((aY S k).getD 1 0).toNat) ai).xs))) (ys:=((ps.getD (((aY S k).getD 0 0).toNat) ai).xs)) rfl Tryz.underlying24 Ea rfl rfl rfl rfl (H9.ow 0) (show bH aJ w5 (.slice ((ps.getD (((aY S k).getD 0 0).toNat) ai).a) ((ps.getD (((aY S k).getD 0 0).toNat) ai).n) ((ps.getD (((aY S k).getD 0 0).toNat) ai).c)) ((ps.getD (((aY S k).getD 0 0).toNat) ai).xs) from (ga.own (H9.cB 1 rfl)).get ai (((aY S k).getD 0 0).toNat) oz) b9 b9 fun a2 c2 w6 u5=>?_)
 have bO:=H9.un 0 u5
 exact cy 2 (h:=by exact ⟨(([]:List Nd)++((ps.getD (((aY S k).getD 1 0).toNat) ai).xs))++((ps.getD (((aY S k).getD 0 0).toNat) ai).xs),a2,c2,rfl,bO,(by first|(rw [acL,KJ,hx1];simp)|(rw [hx,List.take_of_length_le (by rw [←qh S k,rv];omega)]))⟩)
 refine cY 6 [8,7,6,5,4,3,2,0] (fun B R L m e v=>∃j,∃xs:List Nd,∃xa xc,e=(8,bJ j)::(7,aG xa xs xc)::B∧aA w L v ([cg aJ 89 xa xs xc]::R)∧(j≤(aY S k).length)∧(xs=bG ((bz S).kids.take j))∧m=(aY S k).length-j) (i:=⟨0,([]:List Nd),none,0,rfl,H8,om,xi,rfl⟩) (h:=?_)
 rintro m2 Γ2 w7 ⟨j,xs,xa,xc,rfl,bR,hj,hx,rfl⟩
 refine aL 9 (fun lU=>?_) fun lU=>?_
 obtain ⟨KJ,hxi,S3,hSS,QM⟩:=LJ hS mL (m:=j) oz
 have hz0:=congrArg List.length (hP.at oz hSS)
 rw [gY] at hz0
 have GX:=hSS.le
 have hxz:=AM hS.1 QM
 rw [←hx] at hxz
 refine ae 9 (h:=bU j (bR.rt 3) (k:=ae 0 (h:=cn (bR.rt 3) (k:=ae 0 (h:=bU (((aY S k).getD j 0).toNat) (bR.rt 2) (cN:=oz) (k:=ae 0 (h:=cn (bR.rt 2) (k:=?_))))))))
 refine aR 0 rfl (dQ (T:=aJ) (xs:=xs) (ys:=((ps.getD (((aY S k).getD j 0).toNat) ai).xs)) rfl Tryz.underlying24 Ea rfl rfl rfl rfl (bR.ow 0) (show bH aJ w7 (.slice ((ps.getD (((aY S k).getD j 0).toNat) ai).a) ((ps.getD (((aY S k).getD j 0).toNat) ai).n) ((ps.getD (((aY S k).getD j 0).toNat) ai).c)) ((ps.getD (((aY S k).getD j 0).toNat) ai).xs) from (ga.own (bR.cB 1 rfl)).get ai (((aY S k).getD j 0).toNat) oz) b9 b9 fun a3 c3 w8 u6=>?_)
 have cm:=bR.un 0 u6
 exact ae 6 (h:=aX (k:=b6 2 (h:=by exact ⟨j+1,xs++((ps.getD (((aY S k).getD j 0).toNat) ai).xs),a3,c3,rfl,cm,om,(by rw [hx,QM,bV,cz,hP.at oz hSS]),rfl⟩)))
 exact cy 1 (h:=by exact ⟨xs,xa,xc,rfl,bR,(by first|(rw [acL,KJ,hx1];simp)|(rw [hx,List.take_of_length_le (by rw [←qh S k,rv];omega)]))⟩)
 rintro Γ3 w9 ⟨Ly,akT,akS,rfl,cW,hx⟩
 have cH:=cW.ps [4,0,1,2,3]
 refine mK 0 [7,6,4,3,2,0] 1 cH (fun B R L e v=>∃nk,e=B∧aA w L v ([bm w2.heap.size #[ak nk,av ((l.getD k cb).set).w0,av ((l.getD k cb).set).w1,av ((l.getD k cb).set).w2,av ((l.getD k cb).set).w3,ak ((l.getD k cb).lo),ak ((l.getD k cb).hi)] 89]::R)∧(nk=(jb (l.getD k cb)).kind)) ?_ ?_
 refine ae 3 (h:=aH (cH.b 0) (k:=aL 3 (fun mi=>?_) fun mi=>?_))
 exact aU 2 (h:=jA cH 0 (k:=fun gK cI=>cy 1 (h:=by exact ⟨4,rfl,cI,(by unfold jb;first|(rw [if_pos mi];done)|(rw [if_neg mi,if_pos fg];done)|(rw [if_neg mi,if_neg fg];done))⟩)))
 refine ae 3 (h:=aH (cH.b 0) (k:=aL 3 (fun fg=>?_) fun fg=>?_))
 exact aU 2 (h:=jA cH 0 (k:=fun iu cT=>cy 1 (h:=by exact ⟨3,rfl,cT,(by unfold jb;first|(rw [if_pos mi];done)|(rw [if_neg mi,if_pos fg];done)|(rw [if_neg mi,if_neg fg];done))⟩)))
 exact cy 1 (h:=by exact ⟨(l.getD k cb).kind,rfl,cH,(by unfold jb;first|(rw [if_pos mi];done)|(rw [if_neg mi,if_pos fg];done)|(rw [if_neg mi,if_neg fg];done))⟩)
 rintro Γ4 iW ⟨nk,rfl,dj,SL⟩
 have alq:=congrArg List.length hx
 refine ae 3 (h:=b8 (dj.b 0) (k:=ae 0 (h:=db aJ ([(⟨nk,(l.getD k cb).set,(l.getD k cb).lo,(l.getD k cb).hi⟩:Nd)]:List Nd) dj (k:=fun iV dY=>ae 0 (h:=fT dY 1 (dY.rt 5) (hb:=b9) (gk:=b9) (k:=fun a4 c4 lT ai9=>?_))))))
 have eJ:=(ai9.drop 5).no
 refine ae 0 (h:=db aW ([⟨a4,(Ly++([(⟨nk,(l.getD k cb).set,(l.getD k cb).lo,(l.getD k cb).hi⟩:Nd)]:List Nd)).length,c4,Ly++([(⟨nk,(l.getD k cb).set,(l.getD k cb).lo,(l.getD k cb).hi⟩:Nd)]:List Nd)⟩]:List (LR Nd)) eJ (k:=fun qx dB=>ae 0 (h:=fT dB 3 (dB.rt 6) (hb:=b9) (gk:=b9) (k:=fun a5 c5 qw ZV=>?_))))
 have gu:=(ZV.drop 6).no
 have gQ:aA _ _ _ [[_],[],[_],[_],[_],[],[]]:=(aA.kC (f:=(bh aJ 89).row) (⟨a4,(Ly++([(⟨nk,(l.getD k cb).set,(l.getD k cb).lo,(l.getD k cb).hi⟩:Nd)]:List Nd)).length,c4,Ly++([(⟨nk,(l.getD k cb).set,(l.getD k cb).lo,(l.getD k cb).hi⟩:Nd)]:List Nd)⟩:(LR Nd)) gu 2 1 rfl rfl rfl).re rfl
 exact ae 6 (h:=aX (k:=b6 2 (h:=by exact ⟨k+1,ps++([⟨a4,(Ly++([(⟨nk,(l.getD k cb).set,(l.getD k cb).lo,(l.getD k cb).hi⟩:Nd)]:List Nd)).length,c4,Ly++([(⟨nk,(l.getD k cb).set,(l.getD k cb).lo,(l.getD k cb).hi⟩:Nd)]:List Nd)⟩]:List (LR Nd)),a5,c5,rfl,(gQ.pm [1,2] rfl rfl),om,(by exact hP.push hS (by simp only [];rw [AD hS.1,hx,D1 SL,hrS])),rfl⟩)))
 have hlp:=hT.2.1
 have e9:=hP.at (j:=l.length-1) oz hT
 refine ae 7 (h:=jK (k:=ae 0 (h:=bU (l.length-1) (H3.rt 1) (cN:=oz) (k:=ae 0 (h:=cn (H3.rt 1) (k:=bE 4 (h:=?_)))))))
 have jy:Uu3:=H3.iw (f:=(bh aJ 89).row) ai 0 (l.length-1) rfl oz
 exact ⟨(ps.getD (l.length-1) ai).a,(ps.getD (l.length-1) ai).c,(ps.getD (l.length-1) ai).n,rfl,(by have hh:=jy.iz 2;rw [←e9];exact hh)⟩
end Go.Proofs.YtpbgmkhmdbchpaaGreatDoor
namespace Go.Sx
theorem rY {p:Prop} (h:p:=by first|omega|(simp only [cC,List.length_append,List.length_singleton,List.length_set];omega)):p:=h
theorem rZ {p:Prop} (h:p:=by first|omega|(simp only [List.length_cons,List.length_nil];omega)):p:=h
theorem dO {p:Prop} (h:p:=by first|omega|(simp only [cC,List.length_append,List.length_singleton,List.length_set];done)|(simp only [cC,List.length_append,List.length_singleton,List.length_set];omega)):p:=h
end Go.Sx
namespace Go.Proofs.YtpbgmkhmdbchpaaGreatDoor
open Go Go.Sx
theorem jh (oa:aO) (o:List ay) (oc:Nat) (on:Nat) (t:ay) (w:World) (ro:bH aP w (.slice oa on oc) o) (hb:o.length≤200000):
 Calls Tryz.prog 162 #[.slice oa on oc,.agg #[ak t.kind,ak t.a,ak t.b,av t.set.w0,av t.set.w1,av t.set.w2,av t.set.w3]] w (bj fun v w'=>∃a2,∃c2:Nat,v= .tuple #[aG a2 (o++[t]) c2,bJ o.length]∧aE w [] w' [cg aP 193 a2 (o++[t]) c2]):=by
 obtain rfl:on=o.length:=ro.len
 have le_ro:=ro.le
 refine cL Tryz.func162 (h:=fun H0=>ae 2 (h:=gI H0 (k:=fun w1 H1=>eI 5 H1 (h:=fun w2 H2=>cP 1 3 (H2.b 0) (D:=fun _ hC=>b8 hC) (h:=S4 2 [0,4] (Ds ?_ ?_))))))
 refine aaC ⟨_,_,_,rfl,rfl,rfl,rfl,rfl,rfl⟩ (ie (T:=aP) rfl Tryz.underlying151 VH fun w3 u2=>?_)
 have H3:=H2.nw u2
 refine ⟨⟨trivial,trivial,(H3.b 0),trivial,trivial⟩,?_⟩
 refine S4 0 [2,4] (Ds ?_ ?_)
 refine DT (D:=fT H3 1 (ro.at H3) (hb:=b9) (gk:=b9) (k:=fun a1 c1 w4 GK=>?_))
 have H4:=GK.no
 refine ⟨⟨trivial,trivial,(H4.b 0),trivial⟩,?_⟩
 refine c7 0 4 (D:=db aP ([t]:List ay) H4 (k:=fun w5 H5=>?_))
 refine ⟨⟨trivial,trivial,trivial⟩,?_⟩
 refine c7 0 5 (D:=fT H5 1 (H5.rt 2) (hb:=b9) (gk:=b9) (k:=fun a2 c2 w6 Vu=>?_))
 have H6:=(Vu.drop 2).no
 refine ⟨⟨trivial,trivial,trivial⟩,?_⟩
 exact gr 5 (h:=⟨a2,c2,rfl,(by have hh:=H6.iz 1;exact hh)⟩)
 refine DT (D:=db aP ([t]:List ay) H3 (k:=fun w7 H7=>?_))
 refine ⟨⟨trivial,trivial,trivial,trivial⟩,?_⟩
 refine c7 0 2 (D:=fT H7 1 (ro.at H7) (hb:=b9) (gk:=b9) (k:=fun a3 c3 w8 Vs=>?_))
 have H8:=Vs.no
 refine ⟨⟨trivial,trivial,trivial⟩,?_⟩
 refine c7 0 5 (D:=fT H8 1 (H8.rt 2) (hb:=b9) (gk:=b9) (k:=fun a4 c4 w9 H9x=>?_))
 have H9:=(H9x.drop 2).no
 refine ⟨⟨trivial,trivial,trivial⟩,?_⟩
 exact gr 5 (h:=⟨a4,c4,rfl,(by have hh:=H9.iz 1;exact hh)⟩)
 refine DT (D:=db aP ([t]:List ay) H2 (k:=fun gK bO=>?_))
 refine ⟨⟨trivial,trivial,trivial,trivial⟩,?_⟩
 refine vQ 0 0 ⟨_,_,_,rfl,rfl,rfl,rfl,rfl,rfl⟩ (ie (T:=aP) rfl Tryz.underlying151 VH fun iu qZ=>?_)
 have bR:=bO.nw qZ
 refine ⟨⟨trivial,trivial,trivial,trivial⟩,?_⟩
 refine c7 0 2 (D:=fT bR 2 (ro.at bR) (hb:=b9) (gk:=b9) (k:=fun a5 c5 iW Su=>?_))
 have cm:=Su.no
 refine ⟨⟨trivial,trivial,trivial⟩,?_⟩
 refine c7 0 5 (D:=fT cm 2 (cm.rt 1) (hb:=b9) (gk:=b9) (k:=fun a6 c6 iV St=>?_))
 have cW:=(St.drop 1).no
 refine ⟨⟨trivial,trivial,trivial⟩,?_⟩
 exact gr 5 (h:=⟨a6,c6,rfl,(by have hh:=cW.iz 2;exact hh)⟩)
theorem xM (la:aO) (l:List Nd) (lc:Nat) (iI:Int) (i:Nat) (oa:aO) (o:List ay) (oc:Nat) (on:Nat) (T:Tr) (N:Nat) (w:World) (rl:cd aJ w la l lc) (ro:bH aP w (.slice oa on oc) o) (lO:iI=((i:Nat):Int)) (hT:Sub l i T) (bX:fo T) (hz:o.length+aQ T≤100000) (hl:l.length≤512) (hN:2*i<N+1) (sT:∀(la:aO) (l:List Nd) (lc:Nat) (iI:Int) (i:Nat) (oa:aO) (o:List ay) (oc:Nat) (on:Nat) (T:Tr) (w:World) (rl:cd aJ w la l lc) (ro:bH aP w (.slice oa on oc) o) (lO:iI=((i:Nat):Int)) (hT:Sub l i T) (bX:fo T) (hz:o.length+aQ T≤100000) (hl:l.length≤512) (cX:2*i<N),Calls Tryz.prog 119 #[aG la l lc,ak iI,.slice oa on oc] w (bj fun v w'=>∃a2 c2,∃n2:Nat,v= .agg #[.slice a2 n2 c2,bJ (ao T o).first,bJ (ao T o).last]∧aE w [] w' [aj aP (.slice a2 n2 c2) 193 ((ao T o).s)])) (Bh:∀(la:aO) (l:List Nd) (lc:Nat) (n:Nd) (kI:Int) (k:Nat) (oa:aO) (o:List ay) (oc:Nat) (on:Nat) (A:Tr) (w:World) (rl:cd aJ w la l lc) (ro:bH aP w (.slice oa on oc) o) (IZ:kI=((k:Nat):Int)) (hT:Sub l k A) (bX:fo A) (hn:0≤n.lo∧n.lo≤32∧(n.hi= -1∨n.lo≤n.hi∧n.hi≤32)) (hz:o.length+(2+n.lo.toNat*aQ A+(if n.hi<0 then aQ A+1 else (n.hi-n.lo).toNat*(aQ A+1)))≤100000) (hl:l.length≤512) (cX:2*k+1<N),Calls Tryz.prog 163 #[aG la l lc,.agg #[ak n.kind,av n.set.w0,av n.set.w1,av n.set.w2,av n.set.w3,ak n.lo,ak n.hi],ak kI,.slice oa on oc] w (bj fun v w'=>∃a2 c2,∃n2:Nat,v= .agg #[.slice a2 n2 c2,bJ (fO (ao A) n o).first,bJ (fO (ao A) n o).last]∧aE w [] w' [aj aP (.slice a2 n2 c2) 193 ((fO (ao A) n o).s)])):
 Calls Tryz.prog 119 #[aG la l lc,ak iI,.slice oa on oc] w (bj fun v w'=>∃a2 c2,∃n2:Nat,v= .agg #[.slice a2 n2 c2,bJ (ao T o).first,bJ (ao T o).last]∧aE w [] w' [aj aP (.slice a2 n2 c2) 193 ((ao T o).s)]):=by
 subst lO
 obtain rfl:on=o.length:=ro.len
 have hi:=hT.2.1
 have hTl:=hT.le
 have KQ:=MD hT
 have hkz:=AQ T
 have dD:=rl.le
 have le_ro:=ro.le
 refine cL Tryz.func119 (h:=fun H0=>ae 2 (h:=da H0 (k:=fun w1 H1=>ae 6 (h:=aM (c:=tV la l lc _ i T w1 (rl.at H1) oz oz hT) (k:=?_)))))
 rintro _ w2 ⟨bN,cv,rfl,u2⟩
 have H2:=H1.ns u2
 refine aL 11 (fun fg=>?_) fun fg=>?_
 obtain ⟨n5,gV,c0⟩:=lj hT oz
 have Bi:=hT.1
 rw [gV] at Bi
 simp only [Tr.wk] at Bi
 rw [c0] at Bi
 refine ae 2 (h:=db (aw .i64) [0,1,2,4,5] H2 (k:=fun w3 H3=>eI 4 H3 (h:=fun w4 H4=>bY 4 4 (rl.at H4) (D:=fun _ hC=>fI i hC (hj:=rZ)) (h:=bY 0 5 (rl.at H4) (D:=fun _ hC=>iL hC (hj:=rZ)) (h:=bY 0 6 (rl.at H4) (D:=fun _ hC=>nU hC (hj:=rZ)) (h:=bY 0 7 (H4.rt 2) (D:=fun _ hC=>bU (((l.getD i cb).kind).toNat) hC (cN:=rZ) (hj:=rZ)) (h:=bY 0 8 (H4.rt 2) (D:=fun _ hC=>cn hC (hj:=rZ)) (h:=bY 2 11 (rl.at H4) (D:=fun _ hC=>fI i hC (hj:=rZ)) (h:=bY 0 12 (rl.at H4) (D:=fun _ hC=>iL hC (hj:=rZ)) (h:=?_))))))))))
 refine WX 0 13 (rl.at H4) ⟨_,_,_,rfl,rfl,rfl,rfl,rfl,rfl⟩ (fun _ hC=>mO i cb (T:=aJ) (us:=[_,_,_,_]) rfl rfl rfl Tryz.underlying87 rfl Hc rfl hC rZ rfl ⟨rfl,rfl⟩) (gZ 2 16 (D:=fun _=>aX) (h:=gZ 0 17 (D:=fun _=>ck) (h:=c7 0 18 (D:=aM (c:=jh oa o oc o.length (⟨[0,1,2,4,5].getD (((l.getD i cb).kind).toNat) 0,(((o.length:Nat):Int)+1),0,(l.getD i cb).set⟩:ay) w4 (ro.at H4) rY) (k:=?_)))))
 rintro _ w5 ⟨gW,jB,rfl,u4⟩
 have H5:=H4.ns u4
 refine ⟨trivial,?_⟩
 refine cG 7 [10,9,6] (h:=ae 3 (h:=ck (us:=[ak 2,ak 0,ak 0,av Bs.zero.w0,av Bs.zero.w1,av Bs.zero.w2,av Bs.zero.w3]) (k:=ae 0 (h:=aM (c:=jh gW (o++[(⟨[0,1,2,4,5].getD (((l.getD i cb).kind).toNat) 0,(((o.length:Nat):Int)+1),0,(l.getD i cb).set⟩:ay)]) _ ((o++[(⟨[0,1,2,4,5].getD (((l.getD i cb).kind).toNat) 0,(((o.length:Nat):Int)+1),0,(l.getD i cb).set⟩:ay)]).length) (⟨2,0,0,Bs.zero⟩:ay) w5 (H5.rt 3) rY) (k:=?_)))))
 rintro _ w6 ⟨kW,oj,rfl,u5⟩
 have H6:=H5.ns u5
 refine ae 12 (h:=ck (us:=[.slice kW (((o++[(⟨[0,1,2,4,5].getD (((l.getD i cb).kind).toNat) 0,(((o.length:Nat):Int)+1),0,(l.getD i cb).set⟩:ay)])++[(⟨2,0,0,Bs.zero⟩:ay)]).length) oj,bJ o.length,bJ (o++[(⟨[0,1,2,4,5].getD (((l.getD i cb).kind).toNat) 0,(((o.length:Nat):Int)+1),0,(l.getD i cb).set⟩:ay)]).length]) (k:=aU 0 (h:=bC H6 0 (k:=fun w7 H7=>nG 3 (h1:=cK (H7.b 0)) (h:=?_)))))
 have hke:([0,1,2,4,5]:List Int).getD (l.getD i cb).kind.toNat 0=(iC n5 0).kind:=by unfold iC;simp only;rw [c0];rcases Bi with h9|h9|h9|h9<;>rw [h9]<;>rfl
 have e:=P6 (n:=n5) (o:=o) (t:=⟨([0,1,2,4,5]:List Int).getD (l.getD i cb).kind.toNat 0,((o.length:Nat):Int)+1,0,(l.getD i cb).set⟩) (by rw [hke,←c0];rfl)
 rw [gV,e]
 exact ⟨kW,oj,((o++[(⟨[0,1,2,4,5].getD (((l.getD i cb).kind).toNat) 0,(((o.length:Nat):Int)+1),0,(l.getD i cb).set⟩:ay)])++[(⟨2,0,0,Bs.zero⟩:ay)]).length,rfl,(by have hh:=H7.iz 4;exact hh)⟩
 refine ae 7 (h:=fI i (rl.at H2) (k:=ae 0 (h:=iL (rl.at H2) (k:=ae 0 (h:=nU (rl.at H2) (k:=aL 3 (fun ju=>?_) fun ju=>?_))))))
 obtain ⟨n5,a5,gV,c0,Bm,QD,FC,uz⟩:=yo hT oz
 have MU:fo a5:=by subst gV;exact bX.rep
 have Fy:=c8.rep (n:=n5) (by subst gV;exact bX.root) (by rw [c0];omega)
 rw [c0] at Fy
 have XI:aQ T=2+(l.getD i cb).lo.toNat*aQ a5+(if (l.getD i cb).hi<0 then aQ a5+1 else ((l.getD i cb).hi-(l.getD i cb).lo).toNat*(aQ a5+1)):=by rw [gV,c0];exact tP _ _
 refine eI 1 H2 (h:=fun w8 H8=>bY 3 3 (rl.at H8) (D:=fun _ hC=>fI i hC (hj:=dO)) (h:=bY 0 4 (rl.at H8) (D:=fun _ hC=>zt hC (hj:=dO)) (h:=bY 1 6 (H8.rt 1) (D:=fun _ hC=>bU 0 hC (hj:=dO)) (h:=bY 0 7 (H8.rt 1) (D:=fun _ hC=>cn hC (hj:=dO)) (h:=c7 1 9 (D:=aM (c:=Bh la l lc (l.getD i cb) _ (((aY T i).getD 0 0).toNat) oa o oc o.length a5 w8 (rl.at H8) (ro.at H8) oz uz MU Fy (by rw [XI] at hz;exact hz) hl oz) (k:=?_)))))))
 rintro _ w9 ⟨pN,rL,Ij,rfl,u7⟩
 have H9:=H8.ns u7
 refine ⟨trivial,?_⟩
 refine c7 0 10 (D:=bC H9 0 (k:=fun gK bO=>?_))
 refine ⟨trivial,?_⟩
 refine nG 3 (h1:=cK (bO.b 0)) (h:=?_)
 rw [gV,P4,c0]
 exact ⟨pN,rL,Ij,rfl,(by have hh:=bO.iz 2;exact hh)⟩
 obtain ⟨n5,a5,b5,gV,c0,Bm,QD,FC,SM,QC,uz,uy⟩:=mZ hT oz
 have Ue:=eX a5 o
 have zz:=eX b5 (ao a5 o).s
 have MU:fo a5:=by subst gV;exact bX.oR
 have NV:fo b5:=by subst gV;exact bX.oQ
 have XI:aQ a5+aQ b5≤aQ T∧(¬(l.getD i cb).kind=5→aQ a5+aQ b5+2≤aQ T):=by rw [←c0,gV];exact AR n5 a5 b5
 refine ae 6 (h:=bU 0 (H2.rt 1) (hj:=dO) (k:=ae 0 (h:=cn (H2.rt 1) (hj:=dO) (k:=ae 1 (h:=aM (c:=sT la l lc _ (((aY T i).getD 0 0).toNat) oa o oc o.length a5 w2 (rl.at H2) (ro.at H2) oz (by first|exact uz|exact uy) (by first|exact MU|exact NV) oz hl oz) (k:=?_))))))
 rintro _ iu ⟨JG,RN,TK,rfl,u9⟩
 have bR:=H2.ns u9
 refine ae 0 (h:=da bR (k:=fun iW cm=>aU 0 (h:=bC cm 3 (k:=fun iV cW=>eI 3 cW (h:=fun lT cH=>bY 2 2 (cH.rt 1) (D:=fun _ hC=>bU 1 hC (hj:=dO)) (h:=bY 0 3 (cH.rt 1) (D:=fun _ hC=>cn hC (hj:=dO)) (h:=cP 1 5 (cH.b 3) (D:=fun _ hC=>aH hC) (h:=S4 0 [6,7] (Ds ?_ ?_)))))))))
 refine DT (D:=aM (c:=sT la l lc _ (((aY T i).getD 1 0).toNat) JG ((ao a5 o).s) _ TK b5 lT (rl.at cH) (cH.rt 2) oz (by first|exact uz|exact uy) (by first|exact MU|exact NV) oz hl oz) (k:=?_))
 rintro _ qx ⟨Vl,Zj,abC,rfl,xh⟩
 have cI:=cH.ns xh
 refine ⟨trivial,?_⟩
 refine c7 0 7 (D:=da cI (k:=fun qw cT=>?_))
 refine ⟨trivial,?_⟩
 refine c7 0 8 (D:=bC cT 5 (k:=fun uW dj=>?_))
 refine ⟨trivial,?_⟩
 refine cG 2 [14,13,6,0,1] (h:=ae 3 (h:=aH (dj.b 5) (k:=ae 8 (h:=fI i (rl.at dj) (k:=ae 0 (h:=iL (rl.at dj) (k:=ae 0 (h:=nU (rl.at dj) (k:=aL 3 (fun tp=>?_) fun tp=>?_)))))))))
 refine ae 4 (h:=aH (dj.b 3) (k:=ae 1 (h:=aH (dj.b 5) (k:=ae 0 (h:=fI ((ao a5 o).last) (dj.rt 4) (hj:=dO) (k:=ae 0 (h:=iL (dj.rt 4) (hj:=dO) (k:=aU 0 (h:=DE (⟨(((ao b5 ((ao a5 o).s)).s).getD ((ao a5 o).last) aq).kind,(((ao b5 ((ao a5 o).s)).first:Nat):Int),(((ao b5 ((ao a5 o).s)).s).getD ((ao a5 o).last) aq).b,(((ao b5 ((ao a5 o).s)).s).getD ((ao a5 o).last) aq).set⟩:ay) dj 4 (hj:=dO) (k:=fun zI dY=>ae 6 (h:=aH (dY.b 3) (k:=ae 1 (h:=aH (dY.b 5) (k:=ae 0 (h:=ck (k:=aU 0 (h:=bC dY 0 (k:=fun zo eJ=>nG 3 (h1:=cK (eJ.b 0)) (h:=?_)))))))))))))))))))
 rw [gV,Il (by rw [c0];omega)]
 exact ⟨Vl,Zj,abC,rfl,(by have hh:=eJ.iz 4;exact hh)⟩
 refine ae 6 (h:=aH (dj.b 3) (k:=ae 1 (h:=aH (dj.b 5) (k:=ae 0 (h:=ck (us:=[ak 3,bJ (ao a5 o).first,bJ (ao b5 ((ao a5 o).s)).first,av Bs.zero.w0,av Bs.zero.w1,av Bs.zero.w2,av Bs.zero.w3]) (k:=ae 0 (h:=aM (c:=jh Vl ((ao b5 ((ao a5 o).s)).s) _ abC (⟨3,(((ao a5 o).first:Nat):Int),(((ao b5 ((ao a5 o).s)).first:Nat):Int),Bs.zero⟩:ay) uW (dj.rt 4) rY) (k:=?_))))))))
 rintro _ DV ⟨aiT,anT,rfl,LG⟩
 have dB:=dj.ns LG
 refine ae 10 (h:=ck (us:=[ak 2,ak 0,ak 0,av Bs.zero.w0,av Bs.zero.w1,av Bs.zero.w2,av Bs.zero.w3]) (k:=ae 0 (h:=aM (c:=jh aiT (((ao b5 ((ao a5 o).s)).s)++[(⟨3,(((ao a5 o).first:Nat):Int),(((ao b5 ((ao a5 o).s)).first:Nat):Int),Bs.zero⟩:ay)]) _ ((((ao b5 ((ao a5 o).s)).s)++[(⟨3,(((ao a5 o).first:Nat):Int),(((ao b5 ((ao a5 o).s)).first:Nat):Int),Bs.zero⟩:ay)]).length) (⟨2,0,0,Bs.zero⟩:ay) DV (dB.rt 6) rY) (k:=?_))))
 rintro _ Od ⟨aer,ad0,rfl,WV⟩
 have gu:=dB.ns WV
 refine cG 7 [19,18,17,14,13,6] (h:=ae 4 (h:=aH (gu.b 3) (k:=ae 1 (h:=fI ((ao a5 o).last) (gu.rt 7) (hj:=dO) (k:=ae 0 (h:=iL (gu.rt 7) (hj:=dO) (k:=aU 0 (h:=DE (⟨((((((ao b5 ((ao a5 o).s)).s)++[(⟨3,(((ao a5 o).first:Nat):Int),(((ao b5 ((ao a5 o).s)).first:Nat):Int),Bs.zero⟩:ay)])++[(⟨2,0,0,Bs.zero⟩:ay)]).getD ((ao a5 o).last) aq).kind),(((((ao b5 ((ao a5 o).s)).s)++[(⟨3,(((ao a5 o).first:Nat):Int),(((ao b5 ((ao a5 o).s)).first:Nat):Int),Bs.zero⟩:ay)]).length:Nat):Int),((((((ao b5 ((ao a5 o).s)).s)++[(⟨3,(((ao a5 o).first:Nat):Int),(((ao b5 ((ao a5 o).s)).first:Nat):Int),Bs.zero⟩:ay)])++[(⟨2,0,0,Bs.zero⟩:ay)]).getD ((ao a5 o).last) aq).b),((((((ao b5 ((ao a5 o).s)).s)++[(⟨3,(((ao a5 o).first:Nat):Int),(((ao b5 ((ao a5 o).s)).first:Nat):Int),Bs.zero⟩:ay)])++[(⟨2,0,0,Bs.zero⟩:ay)]).getD ((ao a5 o).last) aq).set)⟩:ay) gu 7 (hj:=dO) (k:=fun LD gQ=>ae 6 (h:=aH (gQ.b 5) (k:=ae 1 (h:=fI ((ao b5 ((ao a5 o).s)).last) (gQ.rt 7) (hj:=dO) (k:=ae 0 (h:=iL (gQ.rt 7) (hj:=dO) (k:=?_)))))))))))))))
 refine aU 0 (h:=DE (⟨(((((((ao b5 ((ao a5 o).s)).s)++[(⟨3,(((ao a5 o).first:Nat):Int),(((ao b5 ((ao a5 o).s)).first:Nat):Int),Bs.zero⟩:ay)])++[(⟨2,0,0,Bs.zero⟩:ay)]).set ((ao a5 o).last) (⟨((((((ao b5 ((ao a5 o).s)).s)++[(⟨3,(((ao a5 o).first:Nat):Int),(((ao b5 ((ao a5 o).s)).first:Nat):Int),Bs.zero⟩:ay)])++[(⟨2,0,0,Bs.zero⟩:ay)]).getD ((ao a5 o).last) aq).kind),(((((ao b5 ((ao a5 o).s)).s)++[(⟨3,(((ao a5 o).first:Nat):Int),(((ao b5 ((ao a5 o).s)).first:Nat):Int),Bs.zero⟩:ay)]).length:Nat):Int),((((((ao b5 ((ao a5 o).s)).s)++[(⟨3,(((ao a5 o).first:Nat):Int),(((ao b5 ((ao a5 o).s)).first:Nat):Int),Bs.zero⟩:ay)])++[(⟨2,0,0,Bs.zero⟩:ay)]).getD ((ao a5 o).last) aq).b),((((((ao b5 ((ao a5 o).s)).s)++[(⟨3,(((ao a5 o).first:Nat):Int),(((ao b5 ((ao a5 o).s)).first:Nat):Int),Bs.zero⟩:ay)])++[(⟨2,0,0,Bs.zero⟩:ay)]).getD ((ao a5 o).last) aq).set)⟩:ay)).getD ((ao b5 ((ao a5 o).s)).last) aq).kind),(((((ao b5 ((ao a5 o).s)).s)++[(⟨3,(((ao a5 o).first:Nat):Int),(((ao b5 ((ao a5 o).s)).first:Nat):Int),Bs.zero⟩:ay)]).length:Nat):Int),(((((((ao b5 ((ao a5 o).s)).s)++[(⟨3,(((ao a5 o).first:Nat):Int),(((ao b5 ((ao a5 o).s)).first:Nat):Int),Bs.zero⟩:ay)])++[(⟨2,0,0,Bs.zero⟩:ay)]).set ((ao a5 o).last) (⟨((((((ao b5 ((ao a5 o).s)).s)++[(⟨3,(((ao a5 o).first:Nat):Int),(((ao b5 ((ao a5 o).s)).first:Nat):Int),Bs.zero⟩:ay)])++[(⟨2,0,0,Bs.zero⟩:ay)]).getD ((ao a5 o).last) aq).kind),(((((ao b5 ((ao a5 o).s)).s)++[(⟨3,(((ao a5 o).first:Nat):Int),(((ao b5 ((ao a5 o).s)).first:Nat):Int),Bs.zero⟩:ay)]).length:Nat):Int),((((((ao b5 ((ao a5 o).s)).s)++[(⟨3,(((ao a5 o).first:Nat):Int),(((ao b5 ((ao a5 o).s)).first:Nat):Int),Bs.zero⟩:ay)])++[(⟨2,0,0,Bs.zero⟩:ay)]).getD ((ao a5 o).last) aq).b),((((((ao b5 ((ao a5 o).s)).s)++[(⟨3,(((ao a5 o).first:Nat):Int),(((ao b5 ((ao a5 o).s)).first:Nat):Int),Bs.zero⟩:ay)])++[(⟨2,0,0,Bs.zero⟩:ay)]).getD ((ao a5 o).last) aq).set)⟩:ay)).getD ((ao b5 ((ao a5 o).s)).last) aq).b),(((((((ao b5 ((ao a5 o).s)).s)++[(⟨3,(((ao a5 o).first:Nat):Int),(((ao b5 ((ao a5 o).s)).first:Nat):Int),Bs.zero⟩:ay)])++[(⟨2,0,0,Bs.zero⟩:ay)]).set ((ao a5 o).last) (⟨((((((ao b5 ((ao a5 o).s)).s)++[(⟨3,(((ao a5 o).first:Nat):Int),(((ao b5 ((ao a5 o).s)).first:Nat):Int),Bs.zero⟩:ay)])++[(⟨2,0,0,Bs.zero⟩:ay)]).getD ((ao a5 o).last) aq).kind),(((((ao b5 ((ao a5 o).s)).s)++[(⟨3,(((ao a5 o).first:Nat):Int),(((ao b5 ((ao a5 o).s)).first:Nat):Int),Bs.zero⟩:ay)]).length:Nat):Int),((((((ao b5 ((ao a5 o).s)).s)++[(⟨3,(((ao a5 o).first:Nat):Int),(((ao b5 ((ao a5 o).s)).first:Nat):Int),Bs.zero⟩:ay)])++[(⟨2,0,0,Bs.zero⟩:ay)]).getD ((ao a5 o).last) aq).b),((((((ao b5 ((ao a5 o).s)).s)++[(⟨3,(((ao a5 o).first:Nat):Int),(((ao b5 ((ao a5 o).s)).first:Nat):Int),Bs.zero⟩:ay)])++[(⟨2,0,0,Bs.zero⟩:ay)]).getD ((ao a5 o).last) aq).set)⟩:ay)).getD ((ao b5 ((ao a5 o).s)).last) aq).set)⟩:ay) gQ 7 (hj:=dO) (k:=fun LC jy=>?_))
 refine ae 7 (h:=ck (us:=[.slice aer (((((ao b5 ((ao a5 o).s)).s)++[(⟨3,(((ao a5 o).first:Nat):Int),(((ao b5 ((ao a5 o).s)).first:Nat):Int),Bs.zero⟩:ay)])++[(⟨2,0,0,Bs.zero⟩:ay)]).length) ad0,bJ ((ao b5 ((ao a5 o).s)).s).length,bJ (((ao b5 ((ao a5 o).s)).s)++[(⟨3,(((ao a5 o).first:Nat):Int),(((ao b5 ((ao a5 o).s)).first:Nat):Int),Bs.zero⟩:ay)]).length]) (k:=aU 0 (h:=bC jy 0 (k:=fun Oc lv=>nG 3 (h1:=cK (lv.b 0)) (h:=?_)))))
 rw [gV,P5 (by rw [c0];omega) rfl]
 exact ⟨aer,ad0,((((ao b5 ((ao a5 o).s)).s)++[(⟨3,(((ao a5 o).first:Nat):Int),(((ao b5 ((ao a5 o).s)).first:Nat):Int),Bs.zero⟩:ay)])++[(⟨2,0,0,Bs.zero⟩:ay)]).length,rfl,(by have hh:=lv.iz 7;exact hh)⟩
 refine DT (D:=da cH (k:=fun SA j5=>?_))
 refine ⟨⟨(j5.b 3),trivial,(j5.rt 1),(j5.rt 1),trivial,trivial,trivial⟩,?_⟩
 refine c7 0 6 (D:=aM (c:=sT la l lc _ (((aY T i).getD 1 0).toNat) JG ((ao a5 o).s) _ TK b5 SA (rl.at j5) (j5.rt 2) oz (by first|exact uz|exact uy) (by first|exact MU|exact NV) oz hl oz) (k:=?_))
 rintro _ VD ⟨aeq,ain,abB,rfl,WU⟩
 have kY:=j5.ns WU
 refine ⟨trivial,?_⟩
 refine c7 0 8 (D:=bC kY 4 (k:=fun Ob ja=>?_))
 refine ⟨trivial,?_⟩
 refine cG 2 [14,13,6,0,1] (h:=ae 3 (h:=aH (ja.b 4) (k:=ae 8 (h:=fI i (rl.at ja) (k:=ae 0 (h:=iL (rl.at ja) (k:=ae 0 (h:=nU (rl.at ja) (k:=aL 3 (fun tp=>?_) fun tp=>?_)))))))))
 refine ae 4 (h:=aH (ja.b 3) (k:=ae 1 (h:=aH (ja.b 4) (k:=ae 0 (h:=fI ((ao a5 o).last) (ja.rt 5) (hj:=dO) (k:=ae 0 (h:=iL (ja.rt 5) (hj:=dO) (k:=aU 0 (h:=DE (⟨(((ao b5 ((ao a5 o).s)).s).getD ((ao a5 o).last) aq).kind,(((ao b5 ((ao a5 o).s)).first:Nat):Int),(((ao b5 ((ao a5 o).s)).s).getD ((ao a5 o).last) aq).b,(((ao b5 ((ao a5 o).s)).s).getD ((ao a5 o).last) aq).set⟩:ay) ja 5 (hj:=dO) (k:=fun Oa lX=>ae 6 (h:=aH (lX.b 3) (k:=ae 1 (h:=aH (lX.b 4) (k:=ae 0 (h:=ck (k:=aU 0 (h:=bC lX 0 (k:=fun WT oV=>nG 3 (h1:=cK (oV.b 0)) (h:=?_)))))))))))))))))))
 rw [gV,Il (by rw [c0];omega)]
 exact ⟨aeq,ain,abB,rfl,(by have hh:=oV.iz 5;exact hh)⟩
 refine ae 6 (h:=aH (ja.b 3) (k:=ae 1 (h:=aH (ja.b 4) (k:=ae 0 (h:=ck (us:=[ak 3,bJ (ao a5 o).first,bJ (ao b5 ((ao a5 o).s)).first,av Bs.zero.w0,av Bs.zero.w1,av Bs.zero.w2,av Bs.zero.w3]) (k:=ae 0 (h:=aM (c:=jh aeq ((ao b5 ((ao a5 o).s)).s) _ abB (⟨3,(((ao a5 o).first:Nat):Int),(((ao b5 ((ao a5 o).s)).first:Nat):Int),Bs.zero⟩:ay) Ob (ja.rt 5) rY) (k:=?_))))))))
 rintro _ WS ⟨aes,akB,rfl,u27⟩
 have mJ:=ja.ns u27
 refine ae 10 (h:=ck (us:=[ak 2,ak 0,ak 0,av Bs.zero.w0,av Bs.zero.w1,av Bs.zero.w2,av Bs.zero.w3]) (k:=ae 0 (h:=aM (c:=jh aes (((ao b5 ((ao a5 o).s)).s)++[(⟨3,(((ao a5 o).first:Nat):Int),(((ao b5 ((ao a5 o).s)).first:Nat):Int),Bs.zero⟩:ay)]) _ ((((ao b5 ((ao a5 o).s)).s)++[(⟨3,(((ao a5 o).first:Nat):Int),(((ao b5 ((ao a5 o).s)).first:Nat):Int),Bs.zero⟩:ay)]).length) (⟨2,0,0,Bs.zero⟩:ay) WS (mJ.rt 6) rY) (k:=?_))))
 rintro _ Z1 ⟨Wy,Wt,rfl,u28⟩
 have mI:=mJ.ns u28
 refine cG 7 [19,18,17,14,13,6] (h:=ae 4 (h:=aH (mI.b 3) (k:=ae 1 (h:=fI ((ao a5 o).last) (mI.rt 7) (hj:=dO) (k:=ae 0 (h:=iL (mI.rt 7) (hj:=dO) (k:=aU 0 (h:=DE (⟨((((((ao b5 ((ao a5 o).s)).s)++[(⟨3,(((ao a5 o).first:Nat):Int),(((ao b5 ((ao a5 o).s)).first:Nat):Int),Bs.zero⟩:ay)])++[(⟨2,0,0,Bs.zero⟩:ay)]).getD ((ao a5 o).last) aq).kind),(((((ao b5 ((ao a5 o).s)).s)++[(⟨3,(((ao a5 o).first:Nat):Int),(((ao b5 ((ao a5 o).s)).first:Nat):Int),Bs.zero⟩:ay)]).length:Nat):Int),((((((ao b5 ((ao a5 o).s)).s)++[(⟨3,(((ao a5 o).first:Nat):Int),(((ao b5 ((ao a5 o).s)).first:Nat):Int),Bs.zero⟩:ay)])++[(⟨2,0,0,Bs.zero⟩:ay)]).getD ((ao a5 o).last) aq).b),((((((ao b5 ((ao a5 o).s)).s)++[(⟨3,(((ao a5 o).first:Nat):Int),(((ao b5 ((ao a5 o).s)).first:Nat):Int),Bs.zero⟩:ay)])++[(⟨2,0,0,Bs.zero⟩:ay)]).getD ((ao a5 o).last) aq).set)⟩:ay) mI 7 (hj:=dO) (k:=fun Z0 mH=>ae 6 (h:=aH (mH.b 4) (k:=ae 1 (h:=fI ((ao b5 ((ao a5 o).s)).last) (mH.rt 7) (hj:=dO) (k:=ae 0 (h:=iL (mH.rt 7) (hj:=dO) (k:=?_)))))))))))))))
 refine aU 0 (h:=DE (⟨(((((((ao b5 ((ao a5 o).s)).s)++[(⟨3,(((ao a5 o).first:Nat):Int),(((ao b5 ((ao a5 o).s)).first:Nat):Int),Bs.zero⟩:ay)])++[(⟨2,0,0,Bs.zero⟩:ay)]).set ((ao a5 o).last) (⟨((((((ao b5 ((ao a5 o).s)).s)++[(⟨3,(((ao a5 o).first:Nat):Int),(((ao b5 ((ao a5 o).s)).first:Nat):Int),Bs.zero⟩:ay)])++[(⟨2,0,0,Bs.zero⟩:ay)]).getD ((ao a5 o).last) aq).kind),(((((ao b5 ((ao a5 o).s)).s)++[(⟨3,(((ao a5 o).first:Nat):Int),(((ao b5 ((ao a5 o).s)).first:Nat):Int),Bs.zero⟩:ay)]).length:Nat):Int),((((((ao b5 ((ao a5 o).s)).s)++[(⟨3,(((ao a5 o).first:Nat):Int),(((ao b5 ((ao a5 o).s)).first:Nat):Int),Bs.zero⟩:ay)])++[(⟨2,0,0,Bs.zero⟩:ay)]).getD ((ao a5 o).last) aq).b),((((((ao b5 ((ao a5 o).s)).s)++[(⟨3,(((ao a5 o).first:Nat):Int),(((ao b5 ((ao a5 o).s)).first:Nat):Int),Bs.zero⟩:ay)])++[(⟨2,0,0,Bs.zero⟩:ay)]).getD ((ao a5 o).last) aq).set)⟩:ay)).getD ((ao b5 ((ao a5 o).s)).last) aq).kind),(((((ao b5 ((ao a5 o).s)).s)++[(⟨3,(((ao a5 o).first:Nat):Int),(((ao b5 ((ao a5 o).s)).first:Nat):Int),Bs.zero⟩:ay)]).length:Nat):Int),(((((((ao b5 ((ao a5 o).s)).s)++[(⟨3,(((ao a5 o).first:Nat):Int),(((ao b5 ((ao a5 o).s)).first:Nat):Int),Bs.zero⟩:ay)])++[(⟨2,0,0,Bs.zero⟩:ay)]).set ((ao a5 o).last) (⟨((((((ao b5 ((ao a5 o).s)).s)++[(⟨3,(((ao a5 o).first:Nat):Int),(((ao b5 ((ao a5 o).s)).first:Nat):Int),Bs.zero⟩:ay)])++[(⟨2,0,0,Bs.zero⟩:ay)]).getD ((ao a5 o).last) aq).kind),(((((ao b5 ((ao a5 o).s)).s)++[(⟨3,(((ao a5 o).first:Nat):Int),(((ao b5 ((ao a5 o).s)).first:Nat):Int),Bs.zero⟩:ay)]).length:Nat):Int),((((((ao b5 ((ao a5 o).s)).s)++[(⟨3,(((ao a5 o).first:Nat):Int),(((ao b5 ((ao a5 o).s)).first:Nat):Int),Bs.zero⟩:ay)])++[(⟨2,0,0,Bs.zero⟩:ay)]).getD ((ao a5 o).last) aq).b),((((((ao b5 ((ao a5 o).s)).s)++[(⟨3,(((ao a5 o).first:Nat):Int),(((ao b5 ((ao a5 o).s)).first:Nat):Int),Bs.zero⟩:ay)])++[(⟨2,0,0,Bs.zero⟩:ay)]).getD ((ao a5 o).last) aq).set)⟩:ay)).getD ((ao b5 ((ao a5 o).s)).last) aq).b),(((((((ao b5 ((ao a5 o).s)).s)++[(⟨3,(((ao a5 o).first:Nat):Int),(((ao b5 ((ao a5 o).s)).first:Nat):Int),Bs.zero⟩:ay)])++[(⟨2,0,0,Bs.zero⟩:ay)]).set ((ao a5 o).last) (⟨((((((ao b5 ((ao a5 o).s)).s)++[(⟨3,(((ao a5 o).first:Nat):Int),(((ao b5 ((ao a5 o).s)).first:Nat):Int),Bs.zero⟩:ay)])++[(⟨2,0,0,Bs.zero⟩:ay)]).getD ((ao a5 o).last) aq).kind),(((((ao b5 ((ao a5 o).s)).s)++[(⟨3,(((ao a5 o).first:Nat):Int),(((ao b5 ((ao a5 o).s)).first:Nat):Int),Bs.zero⟩:ay)]).length:Nat):Int),((((((ao b5 ((ao a5 o).s)).s)++[(⟨3,(((ao a5 o).first:Nat):Int),(((ao b5 ((ao a5 o).s)).first:Nat):Int),Bs.zero⟩:ay)])++[(⟨2,0,0,Bs.zero⟩:ay)]).getD ((ao a5 o).last) aq).b),((((((ao b5 ((ao a5 o).s)).s)++[(⟨3,(((ao a5 o).first:Nat):Int),(((ao b5 ((ao a5 o).s)).first:Nat):Int),Bs.zero⟩:ay)])++[(⟨2,0,0,Bs.zero⟩:ay)]).getD ((ao a5 o).last) aq).set)⟩:ay)).getD ((ao b5 ((ao a5 o).s)).last) aq).set)⟩:ay) mH 7 (hj:=dO) (k:=fun w33 oM=>?_))
 refine ae 7 (h:=ck (us:=[.slice Wy (((((ao b5 ((ao a5 o).s)).s)++[(⟨3,(((ao a5 o).first:Nat):Int),(((ao b5 ((ao a5 o).s)).first:Nat):Int),Bs.zero⟩:ay)])++[(⟨2,0,0,Bs.zero⟩:ay)]).length) Wt,bJ ((ao b5 ((ao a5 o).s)).s).length,bJ (((ao b5 ((ao a5 o).s)).s)++[(⟨3,(((ao a5 o).first:Nat):Int),(((ao b5 ((ao a5 o).s)).first:Nat):Int),Bs.zero⟩:ay)]).length]) (k:=aU 0 (h:=bC oM 0 (k:=fun w34 qO=>nG 3 (h1:=cK (qO.b 0)) (h:=?_)))))
 rw [gV,P5 (by rw [c0];omega) rfl]
 exact ⟨Wy,Wt,((((ao b5 ((ao a5 o).s)).s)++[(⟨3,(((ao a5 o).first:Nat):Int),(((ao b5 ((ao a5 o).s)).first:Nat):Int),Bs.zero⟩:ay)])++[(⟨2,0,0,Bs.zero⟩:ay)]).length,rfl,(by have hh:=qO.iz 7;exact hh)⟩
theorem zQ (la:aO) (l:List Nd) (lc:Nat) (n:Nd) (kI:Int) (k:Nat) (oa:aO) (o:List ay) (oc:Nat) (on:Nat) (A:Tr) (N:Nat) (w:World) (rl:cd aJ w la l lc) (ro:bH aP w (.slice oa on oc) o) (IZ:kI=((k:Nat):Int)) (hT:Sub l k A) (bX:fo A) (hn:0≤n.lo∧n.lo≤32∧(n.hi= -1∨n.lo≤n.hi∧n.hi≤32)) (hz:o.length+(2+n.lo.toNat*aQ A+(if n.hi<0 then aQ A+1 else (n.hi-n.lo).toNat*(aQ A+1)))≤100000) (hl:l.length≤512) (hN:2*k+1<N+1) (sT:∀(la:aO) (l:List Nd) (lc:Nat) (iI:Int) (i:Nat) (oa:aO) (o:List ay) (oc:Nat) (on:Nat) (T:Tr) (w:World) (rl:cd aJ w la l lc) (ro:bH aP w (.slice oa on oc) o) (lO:iI=((i:Nat):Int)) (hT:Sub l i T) (bX:fo T) (hz:o.length+aQ T≤100000) (hl:l.length≤512) (cX:2*i<N),Calls Tryz.prog 119 #[aG la l lc,ak iI,.slice oa on oc] w (bj fun v w'=>∃a2 c2,∃n2:Nat,v= .agg #[.slice a2 n2 c2,bJ (ao T o).first,bJ (ao T o).last]∧aE w [] w' [aj aP (.slice a2 n2 c2) 193 ((ao T o).s)])) (Bh:∀(la:aO) (l:List Nd) (lc:Nat) (n:Nd) (kI:Int) (k:Nat) (oa:aO) (o:List ay) (oc:Nat) (on:Nat) (A:Tr) (w:World) (rl:cd aJ w la l lc) (ro:bH aP w (.slice oa on oc) o) (IZ:kI=((k:Nat):Int)) (hT:Sub l k A) (bX:fo A) (hn:0≤n.lo∧n.lo≤32∧(n.hi= -1∨n.lo≤n.hi∧n.hi≤32)) (hz:o.length+(2+n.lo.toNat*aQ A+(if n.hi<0 then aQ A+1 else (n.hi-n.lo).toNat*(aQ A+1)))≤100000) (hl:l.length≤512) (cX:2*k+1<N),Calls Tryz.prog 163 #[aG la l lc,.agg #[ak n.kind,av n.set.w0,av n.set.w1,av n.set.w2,av n.set.w3,ak n.lo,ak n.hi],ak kI,.slice oa on oc] w (bj fun v w'=>∃a2 c2,∃n2:Nat,v= .agg #[.slice a2 n2 c2,bJ (fO (ao A) n o).first,bJ (fO (ao A) n o).last]∧aE w [] w' [aj aP (.slice a2 n2 c2) 193 ((fO (ao A) n o).s)])):
 Calls Tryz.prog 163 #[aG la l lc,.agg #[ak n.kind,av n.set.w0,av n.set.w1,av n.set.w2,av n.set.w3,ak n.lo,ak n.hi],ak kI,.slice oa on oc] w (bj fun v w'=>∃a2 c2,∃n2:Nat,v= .agg #[.slice a2 n2 c2,bJ (fO (ao A) n o).first,bJ (fO (ao A) n o).last]∧aE w [] w' [aj aP (.slice a2 n2 c2) 193 ((fO (ao A) n o).s)]):=by
 subst IZ
 obtain rfl:on=o.length:=ro.len
 have FA:=eX A
 have Bm:=hT.2.1
 have hz0:o.length+2+n.lo.toNat*aQ A≤100000:=(by split at hz<;>omega)
 have hzt:o.length+2+n.lo.toNat*aQ A+ji n*(aQ A+1)≤100000:=(by rcases sr n with ⟨h1,h2⟩|⟨h1,h2⟩<;>rw [h2]<;>split at hz<;>omega)
 have htc:=sr n
 have dD:=rl.le
 have le_ro:=ro.le
 refine cL Tryz.func163 (h:=fun H0=>ae 2 (h:=gI H0 (k:=fun w1 H1=>ae 0 (h:=da H1 (k:=fun w2 H2=>ae 5 (h:=ck (us:=[ak 2,ak 0,ak 0,av Bs.zero.w0,av Bs.zero.w1,av Bs.zero.w2,av Bs.zero.w3]) (k:=ae 0 (h:=aM (c:=jh oa o oc o.length (⟨2,0,0,Bs.zero⟩:ay) w2 (ro.at H2) rY) (k:=?_)))))))))
 rintro _ w3 ⟨bN,cv,rfl,u3⟩
 have H3:=H2.ns u3
 have H4:=H3.ps [2,0,1]
 refine cY 20 [12,11,9,10,8,5,0,2] (fun B R L m e v=>∃j ah,∃q:List ay,∃qa qc,∃qn:Nat,e=(12,bJ j)::(11,bJ ah)::(9,.slice qa qn qc)::B∧aA w L v ([aj aP (.slice qa qn qc) 193 q]::R)∧(j≤n.lo.toNat)∧(fe (ao A) j (o++[emp],o.length)=(q,ah))∧m=n.lo.toNat-j) (i:=⟨0,o.length,o++[(⟨2,0,0,Bs.zero⟩:ay)],bN,cv,(o++[(⟨2,0,0,Bs.zero⟩:ay)]).length,rfl,H4,om,rfl,rfl⟩) (h:=?_)
 rintro m1 Γ1 w4 ⟨j,ah,q,qa,qc,qn,rfl,H5,hj,hr,rfl⟩
 have QB:=KD FA hr hj
 have hmq:=FA q
 refine ae 5 (h:=aH (H5.b 1) (k:=aL 3 (fun Va=>?_) fun Va=>?_))
 refine ae 9 (h:=aM (c:=sT la l lc _ k qa q qc qn A w4 (rl.at H5) (H5.rt 0) oz hT bX oz hl oz) (k:=?_))
 rintro _ w5 ⟨gW,jB,Ij,rfl,u4⟩
 have H6:Uu4:=(H5.im u4).re rfl
 exact ae 0 (h:=da H6 (k:=fun w6 H7=>aU 0 (h:=bC H7 4 (k:=fun w7 H8=>ae 5 (h:=aH (H8.b 4) (k:=ae 8 (h:=aH (H8.b 4) (k:=ae 0 (h:=fI ah (H8.rt 3) (hj:=dO) (k:=ae 0 (h:=iL (H8.rt 3) (hj:=dO) (k:=aU 0 (h:=DE (⟨(((ao A q).s).getD ah aq).kind,(((ao A q).first:Nat):Int),(((ao A q).s).getD ah aq).b,(((ao A q).s).getD ah aq).set⟩:ay) H8 3 (hj:=dO) (k:=fun w8 H9=>ae 4 (h:=aH (H9.b 4) (k:=ae 6 (h:=aX (k:=b6 2 (h:=by exact ⟨j+1,(ao A q).last,((ao A q).s).set ah (⟨(((ao A q).s).getD ah aq).kind,(((ao A q).first:Nat):Int),(((ao A q).s).getD ah aq).b,(((ao A q).s).getD ah aq).set⟩:ay),gW,jB,Ij,rfl,(H9.pm [3,1,2] rfl rfl),om,(by exact KC hr),rfl⟩)))))))))))))))))))
 have hje:j=n.lo.toNat:=by omega
 rw [hje] at hr
 refine ae 11 (h:=aH (H5.b 1) (k:=?_))
 have bO:=H5.nr (aw .i64) 3
 have bR:=bO.ps [0,3,1,2]
 refine cY 4 [15,14,11,9,10,8,5,0,2] (fun B R L m e v=>∃m2:Nat,∃jI fm,∃sp:List Nat,∃sI:List Int,∃OL OK,∃q2:List ay,∃Pr Pq,∃Pp:Nat,e=(15,ak jI)::(14,aG OL sI OK)::(11,bJ fm)::(9,.slice Pr Pp Pq)::B∧aA w L v ([aj aP (.slice Pr Pp Pq) 193 q2]::[cg (aw .i64) 3 OL sI OK]::R)∧(m2≤ji n)∧(jI=n.lo+m2)∧(dr (ao A) m2 (q,ah)=(q2,fm,sp))∧(sI=mA sp)∧m=ji n-m2) (i:=⟨0,n.lo,ah,([]:List Nat),([]:List Int),none,0,q,qa,qc,qn,rfl,bR,oz,oz,rfl,rfl,rfl⟩) (h:=?_)
 rintro m2 Γ2 w9 ⟨m2,jI,fm,sp,sI,OL,OK,q2,Pr,Pq,Pp,rfl,cm,zz,hjI,iK,NT,rfl⟩
 have hhf:=wK FA QB.2.1 iK zz
 have agV:=FA q2
 have agu:sI.length=sp.length:=by rw [NT];exact sL sp
 refine mK 1 [15,14,11,9,10,8,5,0,2] 0 cm (fun B R L e v=>∃qb:Bool,e=(65,.bool qb)::B∧aA w L v (R)∧(qb=decide (m2<ji n))) ?_ ?_
 refine ae 3 (h:=aH (cm.b 2) (k:=bZ 2 55 (fun g60=>?_) fun g60=>?_))
 exact cy 11 (h:=by exact ⟨true,rfl,cm,(by rw [Bool.eq_iff_iff];simp only [Bool.and_eq_true,decide_eq_true_eq,Bool.false_eq_true,false_iff,true_iff];omega)⟩)
 refine ae 1 (h:=aH (cm.b 2) (k:=bZ 2 59 (fun ahA=>?_) fun ahA=>?_))
 exact ae 2 (h:=aH (cm.b 2) (k:=cy 4 (h:=by exact ⟨decide (jI=n.lo),rfl,cm,(by rw [Bool.eq_iff_iff];simp only [Bool.and_eq_true,decide_eq_true_eq,Bool.false_eq_true,false_iff,true_iff];omega)⟩)))
 exact cy 7 (h:=by exact ⟨false,rfl,cm,(by rw [Bool.eq_iff_iff];simp only [Bool.and_eq_true,decide_eq_true_eq,Bool.false_eq_true,false_iff,true_iff];omega)⟩)
 rintro Γ3 gK ⟨qb,rfl,cW,hqb⟩
 refine cS 0 (fun Lh=>?_) fun Lh=>?_
 have amX:m2<ji n:=by rw [hqb] at Lh;simpa using Lh
 refine ae 9 (h:=aM (c:=sT la l lc _ k Pr q2 Pq Pp A gK (rl.at cW) (cW.rt 0) oz hT bX oz hl oz) (k:=?_))
 rintro _ iu ⟨kW,oj,TK,rfl,u8⟩
 have cH:Uu5:=(cW.im u8).re rfl
 refine ae 0 (h:=da cH (k:=fun iW cI=>aU 0 (h:=bC cI 5 (k:=fun iV cT=>ae 5 (h:=aH (cT.b 5) (k:=ae 1 (h:=aH (cT.b 5) (k:=ae 0 (h:=ck (us:=[ak 3,bJ (ao A q2).first,ak 0,av Bs.zero.w0,av Bs.zero.w1,av Bs.zero.w2,av Bs.zero.w3]) (k:=ae 0 (h:=aM (c:=jh kW ((ao A q2).s) _ TK (⟨3,(((ao A q2).first:Nat):Int),0,Bs.zero⟩:ay) iV (cT.rt 4) rY) (k:=?_))))))))))))
 rintro _ lT ⟨pN,rL,rfl,zJ⟩
 have dj:=cT.ns zJ
 refine ae 18 (h:=fI fm (dj.rt 6) (hj:=dO) (k:=ae 0 (h:=iL (dj.rt 6) (hj:=dO) (k:=aU 0 (h:=DE (⟨(((((ao A q2).s)++[(⟨3,(((ao A q2).first:Nat):Int),0,Bs.zero⟩:ay)]).getD fm aq).kind),((((ao A q2).s).length:Nat):Int),(((((ao A q2).s)++[(⟨3,(((ao A q2).first:Nat):Int),0,Bs.zero⟩:ay)]).getD fm aq).b),(((((ao A q2).s)++[(⟨3,(((ao A q2).first:Nat):Int),0,Bs.zero⟩:ay)]).getD fm aq).set)⟩:ay) dj 6 (hj:=dO) (k:=fun qx dY=>cG 2 [9,18,16,15,14,10,8,5,0,2] (h:=ae 3 (h:=aH (dY.b 5) (k:=ae 6 (h:=db (aw .i64) [((((ao A q2).s).length:Nat):Int)] dY (k:=fun qw eJ=>ae 0 (h:=fT eJ 1 (eJ.rt 7) (hb:=b9) (gk:=b9) (k:=fun a1 c1 uW ai8=>?_)))))))))))))
 have dB:=(ai8.drop 7).no
 exact ae 6 (h:=aX (k:=b6 2 (h:=by exact ⟨m2+1,jI+1,(ao A q2).last,sp++[(ao A q2).s.length],sI++[((((ao A q2).s).length:Nat):Int)],a1,c1,(((ao A q2).s)++[(⟨3,(((ao A q2).first:Nat):Int),0,Bs.zero⟩:ay)]).set fm (⟨(((((ao A q2).s)++[(⟨3,(((ao A q2).first:Nat):Int),0,Bs.zero⟩:ay)]).getD fm aq).kind),((((ao A q2).s).length:Nat):Int),(((((ao A q2).s)++[(⟨3,(((ao A q2).first:Nat):Int),0,Bs.zero⟩:ay)]).getD fm aq).b),(((((ao A q2).s)++[(⟨3,(((ao A q2).first:Nat):Int),0,Bs.zero⟩:ay)]).getD fm aq).set)⟩:ay),pN,rL,(((ao A q2).s)++[(⟨3,(((ao A q2).first:Nat):Int),0,Bs.zero⟩:ay)]).length,rfl,(dB.pm [6,1,2,3] rfl rfl),oz,oz,(by exact KS iK),(by rw [NT,sM];rfl),rfl⟩)))
 have X3:m2=ji n:=by have h9:¬m2<ji n:=(by rw [hqb] at Lh;simpa using Lh);omega
 rw [X3] at iK
 refine ae 5 (h:=ck (us:=[ak 2,ak 0,ak 0,av Bs.zero.w0,av Bs.zero.w1,av Bs.zero.w2,av Bs.zero.w3]) (k:=ae 0 (h:=aM (c:=jh Pr q2 Pq Pp (⟨2,0,0,Bs.zero⟩:ay) gK (cW.rt 0) rY) (k:=?_))))
 rintro _ zI ⟨JG,RN,rfl,Oj⟩
 have gu:Uu5:=(cW.im Oj).re rfl
 refine ae 12 (h:=fI fm (gu.rt 4) (hj:=dO) (k:=ae 0 (h:=iL (gu.rt 4) (hj:=dO) (k:=aU 0 (h:=DE (⟨(((q2++[(⟨2,0,0,Bs.zero⟩:ay)]).getD fm aq).kind),((q2.length:Nat):Int),(((q2++[(⟨2,0,0,Bs.zero⟩:ay)]).getD fm aq).b),(((q2++[(⟨2,0,0,Bs.zero⟩:ay)]).getD fm aq).set)⟩:ay) gu 4 (hj:=dO) (k:=fun zo gQ=>?_))))))
 have jy:=gQ.ps [4,0,1,2,3]
 refine mK 2 [20,14,10,8] 1 jy (fun B R L e v=>∃q3:List ay,∃TD TC,∃TB:Nat,e=(19,.slice TD TB TC)::B∧aA w L v ([aj aP (.slice TD TB TC) 193 q3]::R)∧(NF (ao A) n o q3 sI q2.length)∧(q3.length=q2.length+1)) ?_ ?_
 refine ae 3 (h:=aH (jy.b 3) (k:=aL 3 (fun Zc=>?_) fun Zc=>?_))
 exact ae 4 (h:=bU 0 (jy.rt 2) (hj:=dO) (k:=ae 0 (h:=cn (jy.rt 2) (hj:=dO) (k:=ae 0 (h:=fI fm (jy.rt 0) (hj:=dO) (k:=ae 0 (h:=iL (jy.rt 0) (hj:=dO) (k:=aU 0 (h:=DE (⟨((((q2++[(⟨2,0,0,Bs.zero⟩:ay)]).set fm (⟨(((q2++[(⟨2,0,0,Bs.zero⟩:ay)]).getD fm aq).kind),((q2.length:Nat):Int),(((q2++[(⟨2,0,0,Bs.zero⟩:ay)]).getD fm aq).b),(((q2++[(⟨2,0,0,Bs.zero⟩:ay)]).getD fm aq).set)⟩:ay)).getD fm aq).kind),sI.getD 0 0,((((q2++[(⟨2,0,0,Bs.zero⟩:ay)]).set fm (⟨(((q2++[(⟨2,0,0,Bs.zero⟩:ay)]).getD fm aq).kind),((q2.length:Nat):Int),(((q2++[(⟨2,0,0,Bs.zero⟩:ay)]).getD fm aq).b),(((q2++[(⟨2,0,0,Bs.zero⟩:ay)]).getD fm aq).set)⟩:ay)).getD fm aq).b),((((q2++[(⟨2,0,0,Bs.zero⟩:ay)]).set fm (⟨(((q2++[(⟨2,0,0,Bs.zero⟩:ay)]).getD fm aq).kind),((q2.length:Nat):Int),(((q2++[(⟨2,0,0,Bs.zero⟩:ay)]).getD fm aq).b),(((q2++[(⟨2,0,0,Bs.zero⟩:ay)]).getD fm aq).set)⟩:ay)).getD fm aq).set)⟩:ay) jy 0 (hj:=dO) (k:=fun DV lv=>cy 1 (h:=by exact ⟨((q2++[(⟨2,0,0,Bs.zero⟩:ay)]).set fm (⟨(((q2++[(⟨2,0,0,Bs.zero⟩:ay)]).getD fm aq).kind),((q2.length:Nat):Int),(((q2++[(⟨2,0,0,Bs.zero⟩:ay)]).getD fm aq).b),(((q2++[(⟨2,0,0,Bs.zero⟩:ay)]).getD fm aq).set)⟩:ay)).set fm (⟨((((q2++[(⟨2,0,0,Bs.zero⟩:ay)]).set fm (⟨(((q2++[(⟨2,0,0,Bs.zero⟩:ay)]).getD fm aq).kind),((q2.length:Nat):Int),(((q2++[(⟨2,0,0,Bs.zero⟩:ay)]).getD fm aq).b),(((q2++[(⟨2,0,0,Bs.zero⟩:ay)]).getD fm aq).set)⟩:ay)).getD fm aq).kind),sI.getD 0 0,((((q2++[(⟨2,0,0,Bs.zero⟩:ay)]).set fm (⟨(((q2++[(⟨2,0,0,Bs.zero⟩:ay)]).getD fm aq).kind),((q2.length:Nat):Int),(((q2++[(⟨2,0,0,Bs.zero⟩:ay)]).getD fm aq).b),(((q2++[(⟨2,0,0,Bs.zero⟩:ay)]).getD fm aq).set)⟩:ay)).getD fm aq).b),((((q2++[(⟨2,0,0,Bs.zero⟩:ay)]).set fm (⟨(((q2++[(⟨2,0,0,Bs.zero⟩:ay)]).getD fm aq).kind),((q2.length:Nat):Int),(((q2++[(⟨2,0,0,Bs.zero⟩:ay)]).getD fm aq).b),(((q2++[(⟨2,0,0,Bs.zero⟩:ay)]).getD fm aq).set)⟩:ay)).getD fm aq).set)⟩:ay),JG,RN,(q2++[(⟨2,0,0,Bs.zero⟩:ay)]).length,rfl,lv,(by first|exact EB FA Zc hr QB.2.1 iK NT|exact EA FA oz oz Zc hr QB.2.1 iK NT),dO⟩)))))))))))
 exact cy 1 (h:=by exact ⟨(q2++[(⟨2,0,0,Bs.zero⟩:ay)]).set fm (⟨(((q2++[(⟨2,0,0,Bs.zero⟩:ay)]).getD fm aq).kind),((q2.length:Nat):Int),(((q2++[(⟨2,0,0,Bs.zero⟩:ay)]).getD fm aq).b),(((q2++[(⟨2,0,0,Bs.zero⟩:ay)]).getD fm aq).set)⟩:ay),JG,RN,(q2++[(⟨2,0,0,Bs.zero⟩:ay)]).length,rfl,jy,(by first|exact EB FA Zc hr QB.2.1 iK NT|exact EA FA oz oz Zc hr QB.2.1 iK NT),dO⟩)
 rintro Γ4 Od ⟨q3,TD,TC,TB,rfl,j5,hRE,al1⟩
 obtain ⟨sp9,T7,XN,hrp⟩:=hRE
 have agv:sp=sp9:=P1 (NT.symm.trans T7)
 subst agv
 refine cY 7 [21,19,20,14,10,8] (fun B R L m e v=>∃j3,∃q4:List ay,∃Po Pl,∃Pj:Nat,e=(21,bJ j3)::(19,.slice Po Pj Pl)::B∧aA w L v ([aj aP (.slice Po Pj Pl) 193 q4]::R)∧(j3≤sI.length)∧(q4=fq q3 (sp.take j3) ((q2.length:Nat):Int))∧m=sI.length-j3) (i:=⟨0,q3,TD,TC,TB,rfl,j5,om,rfl,rfl⟩) (h:=?_)
 rintro m3 Γ5 LD ⟨j3,q4,Po,Pl,Pj,rfl,kY,hj3,XU,rfl⟩
 have agF:q4.length=q3.length:=by rw [XU];exact mQ _ _ _
 refine aL 9 (fun U7=>?_) fun U7=>?_
 have hgj:sI.getD j3 0=((sp.getD j3 0:Nat):Int):=by rw [T7];exact yg sp j3
 have hgb:=XN _ (au (d:=0) (show j3<sp.length by omega))
 exact ae 8 (h:=bU j3 (kY.rt 2) (hj:=dO) (k:=ae 0 (h:=cn (kY.rt 2) (hj:=dO) (k:=ae 1 (h:=fI ((sI.getD j3 0).toNat) (kY.rt 0) (cN:=dO) (hj:=dO) (k:=ae 0 (h:=iL (kY.rt 0) (hj:=dO) (k:=aU 0 (h:=DE (⟨(q4.getD ((sI.getD j3 0).toNat) aq).kind,(q4.getD ((sI.getD j3 0).toNat) aq).a,((q2.length:Nat):Int),(q4.getD ((sI.getD j3 0).toNat) aq).set⟩:ay) kY 0 (hj:=dO) (k:=fun LC ja=>ae 5 (h:=aX (k:=b6 2 (h:=by exact ⟨j3+1,q4.set ((sI.getD j3 0).toNat) (⟨(q4.getD ((sI.getD j3 0).toNat) aq).kind,(q4.getD ((sI.getD j3 0).toNat) aq).a,((q2.length:Nat):Int),(q4.getD ((sI.getD j3 0).toNat) aq).set⟩:ay),Po,Pl,Pj,rfl,ja,om,(by rw [xz _ oz,←XU,←show (sI.getD j3 0).toNat=sp.getD j3 0 by omega];rfl),rfl⟩)))))))))))))
 refine ae 7 (h:=ck (k:=aU 0 (h:=bC kY 4 (k:=fun Oc lX=>nG 3 (h1:=cK (lX.b 4)) (h:=?_)))))
 have e4:q4=fq q3 sp ((q2.length:Nat):Int):=by rw [XU,List.take_of_length_le oz]
 rw [hrp,←e4]
 exact ⟨Po,Pl,Pj,rfl,(by have hh:=lX.iz 0;exact hh)⟩
theorem zS (N:Nat):(∀(la:aO) (l:List Nd) (lc:Nat) (iI:Int) (i:Nat) (oa:aO) (o:List ay) (oc:Nat) (on:Nat) (T:Tr) (w:World) (rl:cd aJ w la l lc) (ro:bH aP w (.slice oa on oc) o) (lO:iI=((i:Nat):Int)) (hT:Sub l i T) (bX:fo T) (hz:o.length+aQ T≤100000) (hl:l.length≤512) (cX:2*i<N),Calls Tryz.prog 119 #[aG la l lc,ak iI,.slice oa on oc] w (bj fun v w'=>∃a2 c2,∃n2:Nat,v= .agg #[.slice a2 n2 c2,bJ (ao T o).first,bJ (ao T o).last]∧aE w [] w' [aj aP (.slice a2 n2 c2) 193 ((ao T o).s)]))∧(∀(la:aO) (l:List Nd) (lc:Nat) (n:Nd) (kI:Int) (k:Nat) (oa:aO) (o:List ay) (oc:Nat) (on:Nat) (A:Tr) (w:World) (rl:cd aJ w la l lc) (ro:bH aP w (.slice oa on oc) o) (IZ:kI=((k:Nat):Int)) (hT:Sub l k A) (bX:fo A) (hn:0≤n.lo∧n.lo≤32∧(n.hi= -1∨n.lo≤n.hi∧n.hi≤32)) (hz:o.length+(2+n.lo.toNat*aQ A+(if n.hi<0 then aQ A+1 else (n.hi-n.lo).toNat*(aQ A+1)))≤100000) (hl:l.length≤512) (cX:2*k+1<N),Calls Tryz.prog 163 #[aG la l lc,.agg #[ak n.kind,av n.set.w0,av n.set.w1,av n.set.w2,av n.set.w3,ak n.lo,ak n.hi],ak kI,.slice oa on oc] w (bj fun v w'=>∃a2 c2,∃n2:Nat,v= .agg #[.slice a2 n2 c2,bJ (fO (ao A) n o).first,bJ (fO (ao A) n o).last]∧aE w [] w' [aj aP (.slice a2 n2 c2) 193 ((fO (ao A) n o).s)])):=by
 induction N with
 | zero=>exact ⟨(by intro la l lc iI i oa o oc on T w rl ro lO hT bX hz hl cX;omega),(by intro la l lc n kI k oa o oc on A w rl ro IZ hT bX hn hz hl cX;omega)⟩
 | succ N ih=>
 obtain ⟨sT,Bh⟩:=ih
 exact ⟨(by intro la l lc iI i oa o oc on T w rl ro lO hT bX hz hl cX;exact xM la l lc iI i oa o oc on T N w rl ro lO hT bX hz hl cX sT Bh),(by intro la l lc n kI k oa o oc on A w rl ro IZ hT bX hn hz hl cX;exact zQ la l lc n kI k oa o oc on A N w rl ro IZ hT bX hn hz hl cX sT Bh)⟩
theorem L6 (la:aO) (l:List Nd) (lc:Nat) (iI:Int) (i:Nat) (oa:aO) (o:List ay) (oc:Nat) (on:Nat) (T:Tr) (w:World) (rl:cd aJ w la l lc) (ro:bH aP w (.slice oa on oc) o) (lO:iI=((i:Nat):Int)) (hT:Sub l i T) (bX:fo T) (hz:o.length+aQ T≤100000) (hl:l.length≤512):
 Calls Tryz.prog 119 #[aG la l lc,ak iI,.slice oa on oc] w (bj fun v w'=>∃a2 c2,∃n2:Nat,v= .agg #[.slice a2 n2 c2,bJ (ao T o).first,bJ (ao T o).last]∧aE w [] w' [aj aP (.slice a2 n2 c2) 193 ((ao T o).s)]):=(zS (2*i+1)).1 la l lc iI i oa o oc on T w rl ro lO hT bX hz hl oz
theorem Ih (la:aO) (l:List Nd) (lc:Nat) (w:World) (rl:cd aJ w la l lc):
 Calls Tryz.prog 83 #[aG la l lc] w (bj fun v w'=>∃a2 c2,∃n2:Nat,∃st:List ay,∃s0 f0 er,v= .tuple #[.agg #[.slice a2 n2 c2,ak s0,ak f0],ak er]∧aE w [] w' [aj aP (.slice a2 n2 c2) 193 st]∧(oB l st s0 f0 er)):=by
 have dD:=rl.le
 refine cL Tryz.func83 (h:=fun H0=>ae 2 (h:=da H0 (k:=fun w1 H1=>ae 7 (h:=aM (c:=Na la l lc w1 (rl.at H1)) (k:=?_)))))
 rintro _ w2 ⟨akR,rfl,u2,XM,abU⟩
 have H2:=H1.call u2
 refine aL 11 (fun mE=>?_) fun mE=>?_
 exact ae 2 (h:=ck (k:=aU 0 (h:=bC H2 0 (k:=fun w3 H3=>fx 4 (h1:=cK (H3.b 0)) (h2:=cZ) (h:=⟨none,0,0,[],0,0,3,rfl,ej H3,(R4 XM oz)⟩)))))
 refine aL 7 (fun mD=>?_) fun mD=>?_
 exact ae 2 (h:=ck (k:=aU 0 (h:=bC H2 0 (k:=fun w4 H4=>fx 4 (h1:=cK (H4.b 0)) (h2:=cZ) (h:=⟨none,0,0,[],0,0,4,rfl,ej H4,(R3 XM oz)⟩)))))
 obtain ⟨T,yv,rR,zy,hz5⟩:=XM.resolve_left (fun h9=>by omega)
 have hp5:=dK T
 have Yi:T.flat.length=l.length:=by rw [rR]
 have Wj:Sub l (l.length-1) T:=by have h9:=Sub.self yv;rw [rR] at h9;exact h9
 have hsu:=size_eq T yv zy oz
 have V7:=eX T []
 simp only [List.length_nil] at V7
 have hl5:l.length≤512:=abU.resolve_left oz
 refine ae 6 (h:=ck (k:=ae 0 (h:=gI H2 (k:=fun w5 H5=>ae 8 (h:=jK (k:=?_))))))
 have H6:=H5.nr aP 193
 have H7:aA _ _ _ [[_,_],[_]]:=aA.of (aE.j7 H6 (l:=[1,2,0]) rfl rfl) rfl
 refine ae 0 (h:=aM (c:=Mt _ la l lc none ([]:List ay) 0 (([]:List ay).length) _ (l.length-1) T w5 (H7.dH 0) (rl.at H7) oz Wj zy gv oz (fb.of (fb.nil _) rl oz H7 0 rfl)) (k:=?_))
 rintro _ w6 ⟨fz,fy,il,rfl,u6⟩
 have H8:=H7.un 0 u6
 refine ae 12 (h:=aH ((H8.dH 0).bm (List.mem_of_getElem? (i:=0) rfl)) (k:=ae 1 (h:=ck (us:=[ak 6,ak 0,ak 0,av Bs.zero.w0,av Bs.zero.w1,av Bs.zero.w2,av Bs.zero.w3]) (k:=ae 0 (h:=fI ((ao T ([]:List ay)).last) (Pa (H8.dH 0) 1) (k:=?_))))))
 have H9:=H8.sn
 exact aU 0 (h:=sNZ (⟨6,0,0,Bs.zero⟩:ay) H9 1 (k:=fun w7 bO=>cG 2 [7,6,5,3,2] (h:=ae 5 (h:=aH (bO.b 0) (k:=ae 2 (h:=ck (k:=aU 0 (h:=bC bO 2 (k:=fun w8 bR=>fx 4 (h1:=cK (bR.b 2)) (h2:=cZ) (h:=⟨fz,fy,il,((ao T ([]:List ay)).s).set ((ao T ([]:List ay)).last) (⟨6,0,0,Bs.zero⟩:ay),(((ao T ([]:List ay)).first:Nat):Int),(((ao T ([]:List ay)).last:Nat):Int),0,rfl,bR.iz 1,(.inr ⟨T,yv,rR,zy,.inr ⟨by omega,rfl,rfl,rfl,rfl⟩⟩)⟩))))))))))
theorem HA (la:aO) (l:List Nd) (lc:Nat) (w:World) (rl:cd aJ w la l lc) (hl9:l.length≤100000):
 Calls Tryz.prog 87 #[aG la l lc] w (bj fun v w'=>∃a2 c2,∃n2:Nat,∃st:List ay,∃s0 f0 er,v= .tuple #[.agg #[.slice a2 n2 c2,ak s0,ak f0],ak er]∧aE w [] w' [aj aP (.slice a2 n2 c2) 193 st]∧(oB l st s0 f0 er)):=by
 have dD:=rl.le
 refine cL Tryz.func87 (h:=fun H0=>ae 2 (h:=da H0 (k:=fun w1 H1=>ae 7 (h:=aM (c:=xI la l lc w1 (rl.at H1)) (k:=?_)))))
 rintro _ w2 ⟨rfl,u2⟩
 have H2:=H1.call u2
 refine cS 3 (fun Gi=>?_) fun Gi=>?_
 exact ae 2 (h:=ck (k:=aU 0 (h:=bC H2 0 (k:=fun w3 H3=>fx 4 (h1:=cK (H3.b 0)) (h2:=cZ) (h:=⟨none,0,0,[],0,0,3,rfl,ej H3,(.inl ⟨by simpa using Gi,rfl,rfl,rfl,rfl⟩)⟩)))))
 obtain ⟨hl5,ho9,T,yv,rR⟩:=fi.1 (show cO l=true by simpa using Gi)
 have zy:fo T:=fun n hn=>ho9 n (by rw [←rR];exact hn)
 have hp5:=dK T
 have Yi:T.flat.length=l.length:=by rw [rR]
 have Wj:Sub l (l.length-1) T:=by have h9:=Sub.self yv;rw [rR] at h9;exact h9
 refine ae 8 (h:=jK (k:=ae 0 (h:=aM (c:=A0 la l lc _ (l.length-1) T w2 (rl.at H2) oz oz Wj zy) (k:=?_))))
 rintro _ w4 ⟨rfl,u4⟩
 have H4:=H2.call u4
 refine aL 3 (fun Gh=>?_) fun Gh=>?_
 exact ae 2 (h:=ck (k:=aU 0 (h:=bC H4 0 (k:=fun w5 H5=>fx 4 (h1:=cK (H5.b 0)) (h2:=cZ) (h:=⟨none,0,0,[],0,0,4,rfl,ej H5,(.inr ⟨T,yv,rR,zy,.inl ⟨by omega,rfl,rfl,rfl,rfl⟩⟩)⟩)))))
 have hsu:=size_eq T yv zy oz
 have V7:=eX T []
 simp only [List.length_nil] at V7
 refine ae 7 (h:=jK (k:=ae 0 (h:=aM (c:=L6 la l lc _ (l.length-1) none ([]:List ay) 0 (([]:List ay).length) T w4 (rl.at H4) (bH.nil w4 none 0) oz Wj zy gv oz) (k:=?_))))
 rintro _ w6 ⟨bN,cv,Ij,rfl,u6⟩
 have H6:=H4.ns u6
 exact ae 0 (h:=da H6 (k:=fun w7 H7=>aU 0 (h:=bC H7 2 (k:=fun w8 H8=>ae 5 (h:=aH (H8.b 2) (k:=ae 1 (h:=aH (H8.b 2) (k:=ae 0 (h:=ck (us:=[ak 6,ak 0,ak 0,av Bs.zero.w0,av Bs.zero.w1,av Bs.zero.w2,av Bs.zero.w3]) (k:=ae 0 (h:=fI ((ao T ([]:List ay)).last) (H8.rt 1) (hj:=(by first|omega|simp;omega)) (k:=aU 0 (h:=sNZ (⟨6,0,0,Bs.zero⟩:ay) H8 1 (hj:=(by first|omega|simp;omega)) (k:=fun w9 H9=>ae 5 (h:=aH (H9.b 2) (k:=ae 1 (h:=aH (H9.b 2) (k:=ae 1 (h:=aH (H9.b 2) (k:=ae 0 (h:=ck (k:=aU 0 (h:=bC H9 0 (k:=fun gK bO=>cG 3 [3,2] (h:=fx 1 (h1:=cK (bO.b 0)) (h2:=cZ) (h:=⟨bN,cv,Ij,((ao T ([]:List ay)).s).set ((ao T ([]:List ay)).last) (⟨6,0,0,Bs.zero⟩:ay),(((ao T ([]:List ay)).first:Nat):Int),(((ao T ([]:List ay)).last:Nat):Int),0,rfl,bO.iz 1,(.inr ⟨T,yv,rR,zy,.inr ⟨by omega,rfl,rfl,rfl,rfl⟩⟩)⟩))))))))))))))))))))))))))
end Go.Proofs.YtpbgmkhmdbchpaaGreatDoor
namespace Go.Sx
theorem JT {p:Prop} (h:p:=by first|omega|(simp only [su];omega)):p:=h
theorem JU {p:Prop} (h:p:=by first|omega|(simp only [su,List.length_replicate];omega)):p:=h
end Go.Sx
namespace Go.Proofs.YtpbgmkhmdbchpaaGreatDoor
open Go Go.Sx
theorem Fc (t:ay) (z:Int) (w:World) (hf:aez t z):
 Calls Tryz.prog 177 #[.agg #[ak t.kind,ak t.a,ak t.b,av t.set.w0,av t.set.w1,av t.set.w2,av t.set.w3],ak z] w (bj fun v w'=>v= .bool true∧aE w [] w' []):=by
 have vw:1≤t.kind∧t.kind≤6∧(t.kind≠1→t.set=Bs.zero)∧(t.kind≠3→t.b=0)∧(t.kind=6→t.a=0)∧0≤t.a∧t.a<z∧0≤t.b∧t.b<z:=hf
 refine cL Tryz.func177 (h:=fun H0=>ae 2 (h:=gI H0 (k:=fun w1 H1=>mK 4 [4,2,1] 0 H1 (fun B R L e v=>∃q:Bool,e=(43,.bool q)::B∧aA w L v (R)∧(q=false)) ?_ ?_)))
 refine ae 2 (h:=aH (H1.b 0) (k:=bZ 2 8 (fun ah4=>?_) fun ah4=>?_))
 exact cy 36 (h:=by exact ⟨true,rfl,H1,(by first|rfl|(exfalso;omega)|(exfalso;exact absurd (vw.2.2.1 oz) (by assumption))|(rw [decide_eq_false_iff_not];omega)|(rw [decide_eq_false_iff_not];exact fun h9=>h9 (vw.2.2.1 oz)))⟩)
 refine ae 1 (h:=aH (H1.b 0) (k:=bZ 3 13 (fun adp=>?_) fun adp=>?_))
 exact cy 31 (h:=by exact ⟨true,rfl,H1,(by first|rfl|(exfalso;omega)|(exfalso;exact absurd (vw.2.2.1 oz) (by assumption))|(rw [decide_eq_false_iff_not];omega)|(rw [decide_eq_false_iff_not];exact fun h9=>h9 (vw.2.2.1 oz)))⟩)
 refine ae 1 (h:=aH (H1.b 0) (k:=bZ 2 17 (fun YE=>?_) fun YE=>?_))
 refine ae 1 (h:=b8 (H1.b 0) (k:=ae 0 (h:=ck (us:=[av Bs.zero.w0,av Bs.zero.w1,av Bs.zero.w2,av Bs.zero.w3]) (k:=?_))))
 refine aR 0 rfl (C2 t.set Bs.zero rfl rfl Tryz.underlying87 Tryz.underlying85 km iX (bZ 3 24 (fun CO=>?_) fun CO=>?_))
 exact cy 20 (h:=by exact ⟨true,rfl,H1,(by first|rfl|(exfalso;omega)|(exfalso;exact absurd (vw.2.2.1 oz) (by assumption))|(rw [decide_eq_false_iff_not];omega)|(rw [decide_eq_false_iff_not];exact fun h9=>h9 (vw.2.2.1 oz)))⟩)
 refine ae 1 (h:=aH (H1.b 0) (k:=bZ 2 28 (fun pB=>?_) fun pB=>?_))
 refine ae 1 (h:=aH (H1.b 0) (k:=bZ 4 34 (fun nq=>?_) fun nq=>?_))
 exact cy 10 (h:=by exact ⟨true,rfl,H1,(by first|rfl|(exfalso;omega)|(exfalso;exact absurd (vw.2.2.1 oz) (by assumption))|(rw [decide_eq_false_iff_not];omega)|(rw [decide_eq_false_iff_not];exact fun h9=>h9 (vw.2.2.1 oz)))⟩)
 refine ae 1 (h:=aH (H1.b 0) (k:=bZ 2 38 (fun IP=>?_) fun IP=>?_))
 exact ae 1 (h:=aH (H1.b 0) (k:=cy 4 (h:=by exact ⟨decide (t.a≠(0:Int)),rfl,H1,(by first|rfl|(exfalso;omega)|(exfalso;exact absurd (vw.2.2.1 oz) (by assumption))|(rw [decide_eq_false_iff_not];omega)|(rw [decide_eq_false_iff_not];exact fun h9=>h9 (vw.2.2.1 oz)))⟩)))
 exact cy 6 (h:=by exact ⟨false,rfl,H1,(by first|rfl|(exfalso;omega)|(exfalso;exact absurd (vw.2.2.1 oz) (by assumption))|(rw [decide_eq_false_iff_not];omega)|(rw [decide_eq_false_iff_not];exact fun h9=>h9 (vw.2.2.1 oz)))⟩)
 refine ae 7 (h:=aH (H1.b 0) (k:=bZ 2 38 (fun nq=>?_) fun nq=>?_))
 exact ae 1 (h:=aH (H1.b 0) (k:=cy 4 (h:=by exact ⟨decide (t.a≠(0:Int)),rfl,H1,(by first|rfl|(exfalso;omega)|(exfalso;exact absurd (vw.2.2.1 oz) (by assumption))|(rw [decide_eq_false_iff_not];omega)|(rw [decide_eq_false_iff_not];exact fun h9=>h9 (vw.2.2.1 oz)))⟩)))
 exact cy 6 (h:=by exact ⟨false,rfl,H1,(by first|rfl|(exfalso;omega)|(exfalso;exact absurd (vw.2.2.1 oz) (by assumption))|(rw [decide_eq_false_iff_not];omega)|(rw [decide_eq_false_iff_not];exact fun h9=>h9 (vw.2.2.1 oz)))⟩)
 refine ae 8 (h:=aH (H1.b 0) (k:=bZ 2 28 (fun CO=>?_) fun CO=>?_))
 refine ae 1 (h:=aH (H1.b 0) (k:=bZ 4 34 (fun pB=>?_) fun pB=>?_))
 exact cy 10 (h:=by exact ⟨true,rfl,H1,(by first|rfl|(exfalso;omega)|(exfalso;exact absurd (vw.2.2.1 oz) (by assumption))|(rw [decide_eq_false_iff_not];omega)|(rw [decide_eq_false_iff_not];exact fun h9=>h9 (vw.2.2.1 oz)))⟩)
 refine ae 1 (h:=aH (H1.b 0) (k:=bZ 2 38 (fun nq=>?_) fun nq=>?_))
 exact ae 1 (h:=aH (H1.b 0) (k:=cy 4 (h:=by exact ⟨decide (t.a≠(0:Int)),rfl,H1,(by first|rfl|(exfalso;omega)|(exfalso;exact absurd (vw.2.2.1 oz) (by assumption))|(rw [decide_eq_false_iff_not];omega)|(rw [decide_eq_false_iff_not];exact fun h9=>h9 (vw.2.2.1 oz)))⟩)))
 exact cy 6 (h:=by exact ⟨false,rfl,H1,(by first|rfl|(exfalso;omega)|(exfalso;exact absurd (vw.2.2.1 oz) (by assumption))|(rw [decide_eq_false_iff_not];omega)|(rw [decide_eq_false_iff_not];exact fun h9=>h9 (vw.2.2.1 oz)))⟩)
 refine ae 7 (h:=aH (H1.b 0) (k:=bZ 2 38 (fun pB=>?_) fun pB=>?_))
 exact ae 1 (h:=aH (H1.b 0) (k:=cy 4 (h:=by exact ⟨decide (t.a≠(0:Int)),rfl,H1,(by first|rfl|(exfalso;omega)|(exfalso;exact absurd (vw.2.2.1 oz) (by assumption))|(rw [decide_eq_false_iff_not];omega)|(rw [decide_eq_false_iff_not];exact fun h9=>h9 (vw.2.2.1 oz)))⟩)))
 exact cy 6 (h:=by exact ⟨false,rfl,H1,(by first|rfl|(exfalso;omega)|(exfalso;exact absurd (vw.2.2.1 oz) (by assumption))|(rw [decide_eq_false_iff_not];omega)|(rw [decide_eq_false_iff_not];exact fun h9=>h9 (vw.2.2.1 oz)))⟩)
 rintro Γ1 w2 ⟨q,rfl,H2,hq⟩
 refine cS 0 (fun RV=>?_) fun RV=>?_
 exfalso;rw [hq] at RV;cases RV
 refine mK 2 [] 0 H2 (fun B R L e v=>∃q2:Bool,e=(4,.bool q2)::B∧aA w L v (R)∧(q2=true)) ?_ ?_
 refine ae 2 (h:=aH (H2.b 0) (k:=bZ 2 47 (fun ah1=>?_) fun ah1=>?_))
 refine ae 1 (h:=aH (H2.b 0) (k:=bZ 4 53 (fun adn=>?_) fun adn=>?_))
 refine ae 1 (h:=aH (H2.b 0) (k:=bZ 3 58 (fun YC=>?_) fun YC=>?_))
 exact ae 1 (h:=aH (H2.b 0) (k:=cy 5 (h:=by exact ⟨decide (t.b<z),rfl,H2,(by first|(exfalso;omega)|(rw [decide_eq_true_eq];omega))⟩)))
 exact cy 7 (h:=by exact ⟨false,rfl,H2,(by first|(exfalso;omega)|(rw [decide_eq_true_eq];omega))⟩)
 exact cy 12 (h:=by exact ⟨false,rfl,H2,(by first|(exfalso;omega)|(rw [decide_eq_true_eq];omega))⟩)
 exact cy 18 (h:=by exact ⟨false,rfl,H2,(by first|(exfalso;omega)|(rw [decide_eq_true_eq];omega))⟩)
 rintro Γ2 w3 ⟨q2,rfl,H3,zx⟩
 exact bE 1 (h:=⟨(by rw [zx]),H3.ag⟩)
theorem rm (eU:aO) (st:List ay) (eT:Nat) (s0:Int) (f0:Int) (w:World) (eH:cd aP w eU st eT) (hN:oU st s0 f0):
 Calls Tryz.prog 153 #[.agg #[aG eU st eT,ak s0,ak f0]] w (bj fun v w'=>v= .bool true∧aE w [] w' []):=by
 have hl:=hN.len
 have hs:=hN.s
 have zA:=hN.f
 have jQ:=eH.le
 refine cL Tryz.func153 (h:=fun H0=>ae 2 (h:=gI H0 (k:=fun w1 H1=>ae 6 (h:=aH (H1.b 0) (k:=bZ 10 11 (fun ahZ=>?_) fun ahZ=>?_)))))
 omega
 refine ae 1 (h:=aH (H1.b 0) (k:=bZ 3 16 (fun adl=>?_) fun adl=>?_))
 omega
 refine ae 1 (h:=aH (H1.b 0) (k:=bZ 4 22 (fun YA=>?_) fun YA=>?_))
 omega
 refine ae 1 (h:=aH (H1.b 0) (k:=bZ 3 27 (fun Uz=>?_) fun Uz=>?_))
 omega
 refine ae 1 (h:=aH (H1.b 0) (k:=cG 5 [32,3,2,1] (h:=aL 0 (fun kA=>?_) fun kA=>?_)))
 exfalso;omega
 refine ae 6 (h:=aH (H1.b 0) (k:=cY 5 [36,35,34,3,2,1] (fun B R L m e v=>∃k,e=(36,bJ k)::B∧aA w L v (R)∧(k≤st.length)∧m=st.length-k) (i:=⟨0,rfl,H1,om,rfl⟩) (h:=?_)))
 rintro m1 Γ1 w2 ⟨k,rfl,H2,hk,rfl⟩
 refine aL 6 (fun Zq=>?_) fun Zq=>?_
 refine ae 7 (h:=fI k (eH.at H2) (k:=ae 0 (h:=zt (eH.at H2) (k:=ae 0 (h:=da H2 (k:=fun w3 H3=>aU 1 (h:=bC H3 1 (k:=fun w4 H4=>?_))))))))
 have wN:=hN.IQ k oz
 refine ae 4 (h:=b8 (H4.b 1) (k:=ae 1 (h:=aM (c:=Fc (st.getD k aq) _ w4 wN.1) (k:=?_))))
 rintro _ w5 ⟨rfl,u4⟩
 have H5:=H4.call u4
 refine ae 3 (h:=aH (H5.b 1) (k:=ae 3 (h:=aH (H5.b 0) (k:=?_))))
 refine aR 1 rfl (pH Tryz.underlying4 rfl rfl (aL 3 (fun ad4=>?_) fun ad4=>?_))
 exfalso;exact ad4 (by rw [Bool.eq_iff_iff];simp only [decide_eq_true_eq];exact wN.2)
 exact ae 4 (h:=aX (k:=b6 2 (h:=by exact ⟨k+1,rfl,(H5.pm [0] rfl rfl),om,rfl⟩)))
 exact bE 8 (h:=⟨rfl,H2.ag⟩)
theorem sG (x:Int) (gi:Nat) (ia:aO) (o:List Bool) (ic:Nat) (XE:Nat) (gt:Nat) (ta:aO) (td:List Int) (tc:Nat) (w:World) (hp:Hp w [bm gi #[.slice ia XE ic] 26,aj bu (.slice ia XE ic) 4 o,bm gt #[aG ta td tc] 25,cg (aw .i64) 3 ta td tc]) (DH:XE=o.length) (hx:0≤x∧x<(o.length:Int)) (htl:td.length≤100000):
 Calls Tryz.prog 195 #[ak x,.pointer (some ⟨gi,0,none⟩),.pointer (some ⟨gt,0,none⟩)] w (bj fun v w'=>∃xp,∃xo:Nat,v= .tuple #[]∧aE w [bm gi #[.slice ia XE ic] 26,aj bu (.slice ia XE ic) 4 o,bm gt #[aG ta td tc] 25,cg (aw .i64) 3 ta td tc] w' [bm gi #[.slice ia XE ic] 26,aj bu (.slice ia XE ic) 4 (gg o x),bm gt #[aG xp (gB o td x) xo] 25,cg (aw .i64) 3 xp (gB o td x) xo]):=by
 refine uZ hp Tryz.func195 (h:=fun H0=>bZ 5 6 (fun ahX=>?_) fun ahX=>?_)
 refine ae 1 (h:=aH (H0.b 0) (k:=bZ 4 12 (fun adj=>?_) fun adj=>?_))
 refine ae 0 (h:=aH (H0.b 0) (k:=ae 1 (h:=bU x.toNat (H0.rt 1) (cN:=oz) (k:=ae 0 (h:=cn (H0.rt 1) (k:=cS 4 (fun Jj=>?_) fun Jj=>?_))))))
 refine ae 2 (h:=aH (H0.b 0) (k:=ae 1 (h:=bU x.toNat (H0.rt 1) (cN:=oz) (k:=aU 0 (h:=tH true H0 1 (k:=fun w1 H1=>ae 3 (h:=aH (H1.b 2) (k:=ae 1 (h:=db (aw .i64) [x] H1 (k:=fun w2 H2=>ae 0 (h:=fT H2 3 (H2.rt 4) (hb:=b9) (gk:=b9) (k:=fun a1 c1 w3 H3x=>?_))))))))))))
 have H3:=(H3x.drop 4).no
 refine aU 0 (h:=jA H3 2 (k:=fun w4 H4=>GN 1 (h:=?_)))
 have e1:gg o x=o.set x.toNat true:=if_neg (by simpa using Jj)
 have e2:gB o td x=td++[x]:=if_neg (by simpa using Jj)
 rw [e1,e2]
 exact ⟨a1,c1,rfl,(H4.se [0,1,2,3])⟩
 refine GN 1 (h:=?_)
 have e1:gg o x=o:=if_pos (by simpa using Jj)
 have e2:gB o td x=td:=if_pos (by simpa using Jj)
 rw [e1,e2]
 exact ⟨ta,tc,rfl,(H0.se [0,1,2,3])⟩
 omega
 omega
theorem A3 (eU:aO) (st:List ay) (eT:Nat) (s0:Int) (f0:Int) (FQ:aO) (fr:List Int) (FP:Nat) (sym:Int) (w:World) (eH:bH aP w (.slice eU st.length eT) st) (GO:bH (aw .i64) w (.slice FQ fr.length FP) fr) (hN:oU st s0 f0) (zA:fr.length≤5000) (wM:∀t,t∈fr→0≤t∧t<(st.length:Int)):
 Calls Tryz.prog 180 #[.agg #[.slice eU st.length eT,ak s0,ak f0],.slice FQ fr.length FP,ak sym] w (bj fun v w'=>∃a2 c2,∃o2:List Bool,v= .slice a2 o2.length c2∧aE w [] w' [aj bu (.slice a2 o2.length c2) 4 o2]∧(oT st fr sym o2)):=by
 have hl:=hN.len
 have jQ:=eH.le
 have Qh:=GO.le
 refine cL Tryz.func180 (h:=fun H0=>ae 2 (h:=gI H0 (k:=fun w1 H1=>ae 6 (h:=aH (H1.b 0) (k:=?_)))))
 refine aR 1 rfl (iE st.length false (T:=bu) rfl Tryz.underlying26 Tg rfl rfl rfl rfl oz oz fun w2 u2=>?_)
 have H2:=H1.nw u2
 refine ae 0 (h:=da H2 (k:=fun w3 H3=>aU 0 (h:=jA H3 2 (k:=fun w4 H4=>ae 4 (h:=da H4 (k:=fun w5 H5=>?_))))))
 refine aR 4 rfl (od rfl rfl ?_)
 have H6:=H5.nr (aw .i64) 3
 have H7:=H6.sn
 have H8:=H7.ps [1,2,3,4,0]
 refine cY 12 [20,19,18,9,8,7,6,3,2] (fun B R L m e v=>∃k,∃o:List Bool,∃td:List Int,∃tda tdc,e=(20,bJ k)::B∧aA w L v ([aj bu (.slice (some ⟨w1.heap.size,0,none⟩) ((List.replicate st.length false).length) st.length) 4 o]::[bm w2.heap.size #[.slice (some ⟨w1.heap.size,0,none⟩) ((List.replicate st.length false).length) st.length] 26]::[bm w4.heap.size #[.slice tda td.length tdc] 25]::[aj (aw .i64) (.slice tda td.length tdc) 3 td]::R)∧(k≤fr.length)∧(Dv st.length fr o td k)∧(2*cf o+td.length≤2*st.length)∧m=fr.length-k) (i:=⟨0,List.replicate st.length false,[],none,0,rfl,(H8.re rfl),om,(by exact Dv.start _ _),(by have h9:=RG (List.replicate st.length false);simp only [List.length_replicate,List.length_nil] at h9 ⊢;omega),rfl⟩) (h:=?_)
 rintro m1 Γ1 w6 ⟨k,o,td,tda,tdc,rfl,H9,hk,hP,hB,rfl⟩
 have GR:=hP.len
 refine aL 6 (fun aiH=>?_) fun aiH=>?_
 refine ae 6 (h:=bU k (GO.at H9) (k:=ae 0 (h:=cn (GO.at H9) (k:=?_))))
 have hfk:=wM _ (au (d:=0) (show k<fr.length by omega))
 have bO:aA _ _ _ [[_,_],[_],[_],[_]]:=aA.of (aE.j7 H9 (l:=[1,0,2,3,4]) rfl rfl) rfl
 have bR:aA _ _ _ [[_,_],[_,_],[_]]:=aA.of (aE.j7 bO (l:=[2,3,0,1,4]) rfl rfl) rfl
 refine aR 6 rfl (kS Ko rfl rfl (bj.calls (sG _ _ (some ⟨w1.heap.size,0,none⟩) o st.length ((List.replicate st.length false).length) _ tda td tdc w6 (bR.Bl 1 0 rfl rfl rfl) JU JT oz) fun _ w7 p1=>?_))
 obtain ⟨jd,jc,rfl,u6⟩:=p1
 have cm:aA _ _ _ [[_,_],[_,_],[_]]:=(bR.gh (A':=[bm w2.heap.size #[.slice (some ⟨w1.heap.size,0,none⟩) ((List.replicate st.length false).length) st.length] 26,aj bu (.slice (some ⟨w1.heap.size,0,none⟩) ((List.replicate st.length false).length) st.length) 4 (gg o (fr.getD k 0))]) (B':=[bm w4.heap.size #[.slice jd ((gB o td (fr.getD k 0)).length) jc] 25,aj (aw .i64) (.slice jd ((gB o td (fr.getD k 0)).length) jc) 3 (gB o td (fr.getD k 0))]) (C:=[]) 1 0 rfl rfl rfl u6).re rfl
 refine ae 4 (h:=aX (k:=?_))
 have cW:aA _ _ _ [[_,_],[_],[_],[_]]:=cm.re rfl
 have cH:=cW.sn
 exact b6 2 (h:=by exact ⟨k+1,gg o (fr.getD k 0),gB o td (fr.getD k 0),jd,jc,rfl,(cH.pm [3,2,0,1,4] rfl rfl),om,(by exact hP.put oz wM),(by have h9:=B6 td (o:=o) (x:=fr.getD k 0) oz;omega),rfl⟩)
 refine cY 4 [9,8,7,6,3,2] (fun B R L m e v=>∃ou:List Bool,∃tu:List Int,∃Z3 Z2,e=B∧aA w L v ([aj bu (.slice (some ⟨w1.heap.size,0,none⟩) ((List.replicate st.length false).length) st.length) 4 ou]::[bm w2.heap.size #[.slice (some ⟨w1.heap.size,0,none⟩) ((List.replicate st.length false).length) st.length] 26]::[bm w4.heap.size #[.slice Z3 tu.length Z2] 25]::[aj (aw .i64) (.slice Z3 tu.length Z2) 3 tu]::R)∧(wg (vV st sym) st.length fr ou tu)∧(2*cf ou+tu.length≤2*st.length)∧m=2*cf ou+tu.length) (i:=⟨o,td,tda,tdc,rfl,H9,(by exact hP.done oz),oz,rfl⟩) (h:=?_)
 rintro m2 Γ2 w8 ⟨ou,tu,Z3,Z2,rfl,cI,hI,hBx,rfl⟩
 have hou:=hI.len
 refine ae 3 (h:=aH (cI.b 2) (k:=aL 4 (fun RQ=>?_) fun RQ=>?_))
 have ag6:=hI.CE (tu.getD (tu.length-1) 0) (au oz)
 have hJ:=hI.pop oz
 have jz:=kN (sym:=sym) hN ag6.1
 have wN:=(hN.IQ (tu.getD (tu.length-1) 0).toNat oz).1
 obtain ⟨_,_,_,_,_,hf6,hf7,hf8,X7⟩:=wN
 have htk:(tu.take (tu.length-1)).length=tu.length-1:=by simp
 have Ue:=B6 (tu.take (tu.length-1)) (o:=ou) (x:=(st.getD (tu.getD (tu.length-1) 0).toNat aq).b) oz
 have zz:=B6 (gB ou (tu.take (tu.length-1)) (st.getD (tu.getD (tu.length-1) 0).toNat aq).b) (o:=gg ou (st.getD (tu.getD (tu.length-1) 0).toNat aq).b) (x:=(st.getD (tu.getD (tu.length-1) 0).toNat aq).a) (by rw [su];omega)
 have V8:=B6 (tu.take (tu.length-1)) (o:=ou) (x:=(st.getD (tu.getD (tu.length-1) 0).toNat aq).a) oz
 refine eI 4 cI (h:=fun w9 cT=>cP 1 1 (cT.b 4) (D:=fun _ hC=>aH hC) (h:=cP 0 2 (cT.b 2) (D:=fun _ hC=>aH hC) (h:=cP 0 3 (cT.b 2) (D:=fun _ hC=>aH hC) (h:=gZ 1 5 (D:=fun _=>jK) (h:=bY 0 6 (cT.rt 3) (D:=fun _ hC=>bU (tu.length-1) hC (cN:=oz)) (h:=bY 0 7 (cT.rt 3) (D:=fun _ hC=>cn hC) (h:=bY 0 8 (eH.at cT) (D:=fun _ hC=>fI ((tu.getD (tu.length-1) 0).toNat) hC (cN:=oz)) (h:=bY 0 9 (eH.at cT) (D:=fun _ hC=>zt hC) (h:=c7 0 10 (D:=da cT (k:=fun gK dj=>?_)))))))))))
 refine ⟨⟨(eH.at dj),(eH.at dj),(dj.rt 3),(dj.rt 3),trivial,trivial,(dj.b 2),(dj.b 2),(dj.b 4),trivial,trivial⟩,?_⟩
 refine c7 0 11 (D:=bC dj 5 (k:=fun iu dY=>?_))
 refine ⟨trivial,?_⟩
 refine ae 4 (h:=aH (dY.b 2) (k:=ae 0 (h:=aH (dY.b 2) (k:=ae 1 (h:=jK (k:=?_))))))
 refine aR 0 rfl (D8 (((tu.length:Nat):Int)-1) (tu.length-1) (T:=(aw .i64)) (e:=3) (xs:=tu) rfl Tryz.underlying25 zM rfl rfl (dY.ow 3) oz oz fun iW u9=>?_)
 have eJ:=dY.un 3 u9
 refine aU 0 (h:=jA eJ 2 (k:=fun iV dB=>ae 12 (h:=aH (dB.b 5) (k:=aL 4 (fun Al=>?_) fun Al=>?_))))
 refine ae 5 (h:=aH (dB.b 5) (k:=?_))
 have gu:aA _ _ _ [[_,_],[_],[_],[_],[_]]:=aA.of (aE.j7 dB (l:=[1,0,2,3,4,5]) rfl rfl) rfl
 have gQ:aA _ _ _ [[_,_],[_,_],[_],[_]]:=aA.of (aE.j7 gu (l:=[2,3,0,1,4,5]) rfl rfl) rfl
 refine aR 0 rfl (kS Ko rfl rfl (bj.calls (sG _ _ (some ⟨w1.heap.size,0,none⟩) ou st.length ((List.replicate st.length false).length) _ Z3 (tu.take (tu.length-1)) Z2 iV (gQ.Bl 1 0 rfl rfl rfl) JU JT oz) fun _ lT p2=>?_))
 obtain ⟨r8,r7,rfl,zJ⟩:=p2
 have jy:aA _ _ _ [[_,_],[_,_],[_],[_]]:=(gQ.gh (A':=[bm w2.heap.size #[.slice (some ⟨w1.heap.size,0,none⟩) ((List.replicate st.length false).length) st.length] 26,aj bu (.slice (some ⟨w1.heap.size,0,none⟩) ((List.replicate st.length false).length) st.length) 4 (gg ou ((st.getD ((tu.getD (tu.length-1) 0).toNat) aq).b))]) (B':=[bm w4.heap.size #[.slice r8 ((gB ou (tu.take (tu.length-1)) ((st.getD ((tu.getD (tu.length-1) 0).toNat) aq).b)).length) r7] 25,aj (aw .i64) (.slice r8 ((gB ou (tu.take (tu.length-1)) ((st.getD ((tu.getD (tu.length-1) 0).toNat) aq).b)).length) r7) 3 (gB ou (tu.take (tu.length-1)) ((st.getD ((tu.getD (tu.length-1) 0).toNat) aq).b))]) (C:=[]) 1 0 rfl rfl rfl zJ).re rfl
 refine cG 3 [12,9,8,7,6,3,2] (h:=ae 4 (h:=aH (jy.b 3) (k:=?_)))
 refine aR 0 rfl (kS Ko rfl rfl (bj.calls (sG _ _ (some ⟨w1.heap.size,0,none⟩) (gg ou ((st.getD ((tu.getD (tu.length-1) 0).toNat) aq).b)) st.length ((List.replicate st.length false).length) _ r8 (gB ou (tu.take (tu.length-1)) ((st.getD ((tu.getD (tu.length-1) 0).toNat) aq).b)) r7 lT (jy.Bl 1 0 rfl rfl rfl) JU JT oz) fun _ qx p3=>?_))
 obtain ⟨Oz,Ow,rfl,xh⟩:=p3
 have lv:aA _ _ _ [[_,_],[_,_],[_],[_]]:=(jy.gh (A':=[bm w2.heap.size #[.slice (some ⟨w1.heap.size,0,none⟩) ((List.replicate st.length false).length) st.length] 26,aj bu (.slice (some ⟨w1.heap.size,0,none⟩) ((List.replicate st.length false).length) st.length) 4 (gg (gg ou ((st.getD ((tu.getD (tu.length-1) 0).toNat) aq).b)) ((st.getD ((tu.getD (tu.length-1) 0).toNat) aq).a))]) (B':=[bm w4.heap.size #[.slice Oz ((gB (gg ou ((st.getD ((tu.getD (tu.length-1) 0).toNat) aq).b)) (gB ou (tu.take (tu.length-1)) ((st.getD ((tu.getD (tu.length-1) 0).toNat) aq).b)) ((st.getD ((tu.getD (tu.length-1) 0).toNat) aq).a)).length) Ow] 25,aj (aw .i64) (.slice Oz ((gB (gg ou ((st.getD ((tu.getD (tu.length-1) 0).toNat) aq).b)) (gB ou (tu.take (tu.length-1)) ((st.getD ((tu.getD (tu.length-1) 0).toNat) aq).b)) ((st.getD ((tu.getD (tu.length-1) 0).toNat) aq).a)).length) Ow) 3 (gB (gg ou ((st.getD ((tu.getD (tu.length-1) 0).toNat) aq).b)) (gB ou (tu.take (tu.length-1)) ((st.getD ((tu.getD (tu.length-1) 0).toNat) aq).b)) ((st.getD ((tu.getD (tu.length-1) 0).toNat) aq).a))]) (C:=[]) 1 0 rfl rfl rfl xh).re rfl
 have j5:aA _ _ _ [[_,_],[_],[_],[_],[_]]:=lv.re rfl
 have kY:=j5.sn
 exact b6 4 (h:=by exact ⟨gg (gg ou ((st.getD ((tu.getD (tu.length-1) 0).toNat) aq).b)) ((st.getD ((tu.getD (tu.length-1) 0).toNat) aq).a),gB (gg ou ((st.getD ((tu.getD (tu.length-1) 0).toNat) aq).b)) (gB ou (tu.take (tu.length-1)) ((st.getD ((tu.getD (tu.length-1) 0).toNat) aq).b)) ((st.getD ((tu.getD (tu.length-1) 0).toNat) aq).a),Oz,Ow,rfl,(kY.pm [3,2,0,1,4] rfl rfl),(by first|exact BY hJ (p7 Al) jz|exact BZ hJ (Ch Al (by rw [←zw];exact Db)) jz|exact xu hJ (sB Al (by rw [←zw];exact Db))),oz,rfl⟩)
 refine mK 2 [12,9,8,7,6,3,2] 0 dB (fun B R L e v=>∃qg:Bool,e=(50,.bool qg)::B∧aA w L v (R)∧(qg=goN sym (st.getD (tu.getD (tu.length-1) 0).toNat aq))) ?_ ?_
 refine ae 3 (h:=aH (dB.b 5) (k:=cG 4 [50,12,9,8,7,6,3,2] (h:=aL 0 (fun Db=>?_) fun Db=>?_)))
 exact cy 1 (h:=by exact ⟨decide (((st.getD ((tu.getD (tu.length-1) 0).toNat) aq).kind)=(2:Int)),rfl,dB,(by unfold goN;rw [Bool.eq_iff_iff];simp only [Bool.and_eq_true,decide_eq_true_eq,Bool.false_eq_true,false_iff,true_iff];omega)⟩)
 refine ae 3 (h:=aH (dB.b 5) (k:=bZ 2 57 (fun ahS=>?_) fun ahS=>?_))
 refine bZ 3 60 (fun QT=>?_) fun QT=>?_
 exact cy 9 (h:=by exact ⟨true,rfl,dB,(by unfold goN;rw [Bool.eq_iff_iff];simp only [Bool.and_eq_true,decide_eq_true_eq,Bool.false_eq_true,false_iff,true_iff];omega)⟩)
 refine aL 7 (fun ad3=>?_) fun ad3=>?_
 exact cy 1 (h:=by exact ⟨decide (sym=(258:Int)),rfl,dB,(by unfold goN;rw [Bool.eq_iff_iff];simp only [Bool.and_eq_true,decide_eq_true_eq,Bool.false_eq_true,false_iff,true_iff];omega)⟩)
 refine ae 2 (h:=aH (dB.b 5) (k:=bZ 2 68 (fun IL=>?_) fun IL=>?_))
 refine bZ 3 71 (fun Uw=>?_) fun Uw=>?_
 exact cy 6 (h:=by exact ⟨true,rfl,dB,(by unfold goN;rw [Bool.eq_iff_iff];simp only [Bool.and_eq_true,decide_eq_true_eq,Bool.false_eq_true,false_iff,true_iff];omega)⟩)
 exact cy 6 (h:=by exact ⟨decide (sym=(258:Int)),rfl,dB,(by unfold goN;rw [Bool.eq_iff_iff];simp only [Bool.and_eq_true,decide_eq_true_eq,Bool.false_eq_true,false_iff,true_iff];omega)⟩)
 exact cy 9 (h:=by exact ⟨false,rfl,dB,(by unfold goN;rw [Bool.eq_iff_iff];simp only [Bool.and_eq_true,decide_eq_true_eq,Bool.false_eq_true,false_iff,true_iff];omega)⟩)
 refine ae 13 (h:=aH (dB.b 5) (k:=bZ 2 68 (fun QT=>?_) fun QT=>?_))
 refine bZ 3 71 (fun IL=>?_) fun IL=>?_
 exact cy 6 (h:=by exact ⟨true,rfl,dB,(by unfold goN;rw [Bool.eq_iff_iff];simp only [Bool.and_eq_true,decide_eq_true_eq,Bool.false_eq_true,false_iff,true_iff];omega)⟩)
 exact cy 6 (h:=by exact ⟨decide (sym=(258:Int)),rfl,dB,(by unfold goN;rw [Bool.eq_iff_iff];simp only [Bool.and_eq_true,decide_eq_true_eq,Bool.false_eq_true,false_iff,true_iff];omega)⟩)
 exact cy 9 (h:=by exact ⟨false,rfl,dB,(by unfold goN;rw [Bool.eq_iff_iff];simp only [Bool.and_eq_true,decide_eq_true_eq,Bool.false_eq_true,false_iff,true_iff];omega)⟩)
 rintro Γ3 qw ⟨qg,rfl,ja,zw⟩
 refine cS 0 (fun Db=>?_) fun Db=>?_
 refine ae 6 (h:=aH (ja.b 5) (k:=?_))
 have lX:aA _ _ _ [[_,_],[_],[_],[_],[_]]:=aA.of (aE.j7 ja (l:=[1,0,2,3,4,5]) rfl rfl) rfl
 have oV:aA _ _ _ [[_,_],[_,_],[_],[_]]:=aA.of (aE.j7 lX (l:=[2,3,0,1,4,5]) rfl rfl) rfl
 refine aR 0 rfl (kS Ko rfl rfl (bj.calls (sG _ _ (some ⟨w1.heap.size,0,none⟩) ou st.length ((List.replicate st.length false).length) _ Z3 (tu.take (tu.length-1)) Z2 qw (oV.Bl 1 0 rfl rfl rfl) JU JT oz) fun _ uW p4=>?_))
 obtain ⟨Oy,Ov,rfl,BS⟩:=p4
 have mJ:aA _ _ _ [[_,_],[_,_],[_],[_]]:=(oV.gh (A':=[bm w2.heap.size #[.slice (some ⟨w1.heap.size,0,none⟩) ((List.replicate st.length false).length) st.length] 26,aj bu (.slice (some ⟨w1.heap.size,0,none⟩) ((List.replicate st.length false).length) st.length) 4 (gg ou ((st.getD ((tu.getD (tu.length-1) 0).toNat) aq).a))]) (B':=[bm w4.heap.size #[.slice Oy ((gB ou (tu.take (tu.length-1)) ((st.getD ((tu.getD (tu.length-1) 0).toNat) aq).a)).length) Ov] 25,aj (aw .i64) (.slice Oy ((gB ou (tu.take (tu.length-1)) ((st.getD ((tu.getD (tu.length-1) 0).toNat) aq).a)).length) Ov) 3 (gB ou (tu.take (tu.length-1)) ((st.getD ((tu.getD (tu.length-1) 0).toNat) aq).a))]) (C:=[]) 1 0 rfl rfl rfl BS).re rfl
 have mI:aA _ _ _ [[_,_],[_],[_],[_],[_]]:=mJ.re rfl
 have mH:=mI.sn
 exact b6 4 (h:=by exact ⟨gg ou ((st.getD ((tu.getD (tu.length-1) 0).toNat) aq).a),gB ou (tu.take (tu.length-1)) ((st.getD ((tu.getD (tu.length-1) 0).toNat) aq).a),Oy,Ov,rfl,(mH.pm [3,2,0,1,4] rfl rfl),(by first|exact BY hJ (p7 Al) jz|exact BZ hJ (Ch Al (by rw [←zw];exact Db)) jz|exact xu hJ (sB Al (by rw [←zw];exact Db))),oz,rfl⟩)
 exact b6 4 (h:=by exact ⟨ou,tu.take (tu.length-1),Z3,Z2,rfl,(ja.pm [0,1,2,3,4] rfl rfl),(by first|exact BY hJ (p7 Al) jz|exact BZ hJ (Ch Al (by rw [←zw];exact Db)) jz|exact xu hJ (sB Al (by rw [←zw];exact Db))),oz,rfl⟩)
 exact ae 4 (h:=aH (cI.b 1) (k:=bE 4 (h:=⟨(some ⟨w1.heap.size,0,none⟩),st.length,ou,(by rw [hou,List.length_replicate]),(by have hh:=cI.iz 0;rw [List.length_replicate] at hh;rw [hou];exact hh),(hI.fin oz)⟩)))
theorem Bb (oa:aO) (o:List Bool) (oc:Nat) (w:World) (ro:cd bu w oa o oc) (GR:o.length≤100000):
 Calls Tryz.prog 179 #[aG oa o oc] w (bj fun v w'=>∃a2,∃c2:Nat,v=aG a2 (cF o) c2∧aE w [] w' [cg (aw .i64) 3 a2 (cF o) c2]):=by
 have le_ro:=ro.le
 refine cL Tryz.func179 (h:=fun H0=>?_)
 have H1:=H0.nr (aw .i64) 3
 refine cY 19 [8,3,7,6,2] (fun B R L m e v=>∃k,∃xs:List Int,∃xa xc,e=(8,bJ k)::(3,aG xa xs xc)::B∧aA w L v ([cg (aw .i64) 3 xa xs xc]::R)∧(k≤o.length)∧(xs=sO o k)∧m=o.length-k) (i:=⟨0,([]:List Int),none,0,rfl,H1,om,rfl,rfl⟩) (h:=?_)
 rintro m1 Γ1 w1 ⟨k,xs,xa,xc,rfl,H2,hk,hx,rfl⟩
 have T5:xs.length≤k:=by rw [hx];exact KA o k
 refine aL 6 (fun aiy=>?_) fun aiy=>?_
 refine ae 7 (h:=bU k (ro.at H2) (k:=ae 0 (h:=cn (ro.at H2) (k:=cS 9 (fun Zm=>?_) fun Zm=>?_))))
 refine ae 3 (h:=db (aw .i64) [((k:Nat):Int)] H2 (k:=fun w2 H3=>ae 0 (h:=fT H3 0 (H3.rt 1) (hb:=b9) (gk:=b9) (k:=fun a1 c1 w3 GK=>?_))))
 have H4:=(GK.drop 1).no
 exact ae 5 (h:=aX (k:=b6 2 (h:=by exact ⟨k+1,xs++[((k:Nat):Int)],a1,c1,rfl,(H4.re rfl),om,(by first|(rw [hx];exact (Kz qz).symm)|(rw [hx];exact (Qc qz).symm)),rfl⟩)))
 exact ae 4 (h:=aX (k:=b6 2 (h:=by exact ⟨k+1,xs,xa,xc,rfl,H2,om,(by first|(rw [hx];exact (Kz qz).symm)|(rw [hx];exact (Qc qz).symm)),rfl⟩)))
 refine bE 9 (h:=?_)
 have e:xs=cF o:=by rw [hx,show k=o.length by omega];rfl
 rw [e] at H2
 exact ⟨xa,xc,(by rw [e]),(by have hh:=H2.iz 0;exact hh)⟩
theorem Ic (eU:aO) (st:List ay) (eT:Nat) (s0:Int) (f0:Int) (FQ:aO) (fr:List Int) (FP:Nat) (sym:Int) (w:World) (eH:cd aP w eU st eT) (GO:cd (aw .i64) w FQ fr FP) (hN:oU st s0 f0) (zA:fr.length≤5000) (wM:∀t,t∈fr→0≤t∧t<(st.length:Int)):
 Calls Tryz.prog 155 #[.agg #[aG eU st eT,ak s0,ak f0],aG FQ fr FP,ak sym] w (bj fun v w'=>∃a2,∃c2:Nat,∃o2:List Bool,v=aG a2 (cF o2) c2∧aE w [] w' [cg (aw .i64) 3 a2 (cF o2) c2]∧(oT st fr sym o2)):=by
 have jQ:=eH.le
 have Qh:=GO.le
 refine cL Tryz.func155 (h:=fun H0=>ae 2 (h:=gI H0 (k:=fun w1 H1=>ae 6 (h:=b8 (H1.b 0) (k:=ae 0 (h:=aM (c:=rm eU st eT _ _ w1 (eH.at H1) hN) (k:=?_)))))))
 rintro _ w2 ⟨rfl,u2⟩
 have H2:=H1.call u2
 refine ae 8 (h:=b8 (H2.b 0) (k:=ae 2 (h:=aM (c:=A3 eU st eT _ _ FQ fr FP _ w2 (eH.at H2) (GO.at H2) hN zA wM) (k:=?_))))
 rintro _ w3 ⟨bN,cv,kM,rfl,u3,sZ⟩
 have H3:=H2.ns u3
 refine ae 0 (h:=aM (c:=Bb bN kM _ w3 (H3.rt 1) (by have h9:=sZ.len;have h8:=hN.len;omega)) (k:=?_))
 rintro _ w4 ⟨gW,jB,rfl,u4⟩
 have H4:=H3.ns u4
 exact bE 4 (h:=⟨gW,jB,kM,rfl,H4.iz 2,oa⟩)
theorem Ms (eU:aO) (st:List ay) (eT:Nat) (s0:Int) (f0:Int) (FQ:aO) (fr:List Int) (FP:Nat) (b:Nat) (w:World) (eH:bH aP w (.slice eU st.length eT) st) (GO:bH (aw .i64) w (.slice FQ fr.length FP) fr) (hN:oU st s0 f0) (zA:fr.length≤5000) (wM:∀t,t∈fr→0≤t∧t<(st.length:Int)) (hb:b<256):
 Calls Tryz.prog 181 #[.agg #[.slice eU st.length eT,ak s0,ak f0],.slice FQ fr.length FP,.int .u8 ((b:Nat):Int)] w (bj fun v w'=>∃a2,∃c2:Nat,∃o2:List Bool,v= .slice a2 ((cF o2).length) c2∧aE w [] w' [aj (aw .i64) (.slice a2 ((cF o2).length) c2) 3 (cF o2)]∧(oT st (ef st fr b) 0 o2)):=by
 have hsl:=AO st fr b
 have hl:=hN.len
 have jQ:=eH.le
 have Qh:=GO.le
 refine cL Tryz.func181 (h:=fun H0=>ae 2 (h:=gI H0 (k:=fun w1 H1=>ae 6 (h:=b8 (H1.b 0) (k:=ae 0 (h:=aM (c:=rm eU st eT _ _ w1 (eH.at H1) hN) (k:=?_)))))))
 rintro _ w2 ⟨rfl,u2⟩
 have H2:=H1.call u2
 have H3:=H2.nr (aw .i64) 3
 have H4:=H3.ps [1,0]
 refine cY 20 [15,7,14,13,6,3,2] (fun B R L m e v=>∃k,∃xs:List Int,∃xa xc,e=(15,bJ k)::(7,.slice xa xs.length xc)::B∧aA w L v ([aj (aw .i64) (.slice xa xs.length xc) 3 xs]::R)∧(k≤fr.length)∧(xs=ef st (fr.take k) b)∧m=fr.length-k) (i:=⟨0,([]:List Int),none,0,rfl,H4,om,rfl,rfl⟩) (h:=?_)
 rintro m1 Γ1 w3 ⟨k,xs,xa,xc,rfl,H5,hk,hx,rfl⟩
 have T5:xs.length≤k:=by rw [hx];have h9:=AO st (fr.take k) b;rw [List.length_take] at h9;omega
 refine aL 6 (fun ais=>?_) fun ais=>?_
 refine ae 6 (h:=bU k (GO.at H5) (k:=ae 0 (h:=cn (GO.at H5) (k:=mK 3 [9,15,7,14,13,6,3,2] 0 H5 (fun B R L e v=>∃q:Bool,e=(46,.bool q)::B∧aA w L v (R)∧(q=je st b (fr.getD k 0))) ?_ ?_))))
 have hfk:=wM _ (au (d:=0) (show k<fr.length by omega))
 refine bZ 4 21 (fun ahQ=>?_) fun ahQ=>?_
 refine ae 2 (h:=aH (H5.b 1) (k:=bZ 4 28 (fun ade=>?_) fun ade=>?_))
 refine ae 1 (h:=aH (H5.b 1) (k:=ae 1 (h:=fI ((fr.getD k 0).toNat) (eH.at H5) (cN:=oz) (k:=ae 0 (h:=iL (eH.at H5) (k:=ae 0 (h:=nU (eH.at H5) (k:=bZ 3 37 (fun Yv=>?_) fun Yv=>?_))))))))
 refine ae 1 (h:=aH (H5.b 1) (k:=ae 1 (h:=fI ((fr.getD k 0).toNat) (eH.at H5) (cN:=oz) (k:=ae 0 (h:=iL (eH.at H5) (k:=?_))))))
 refine aR 0 rfl (mO ((fr.getD k 0).toNat) aq (T:=aP) (us:=[_,_,_,_]) rfl rfl rfl Tryz.underlying87 rfl Hc rfl (eH.at H5) oz rfl (ae 1 (h:=aM (c:=KZ ((st.getD ((fr.getD k 0).toNat) aq).set) b w3 oz) (k:=?_))))
 rintro _ w4 ⟨rfl,u3⟩
 have H6:=H5.call u3
 exact cy 2 (h:=by exact ⟨((st.getD ((fr.getD k 0).toNat) aq).set).has b,rfl,H6,(by unfold je;first|(rw [decide_eq_true (by assumption)];simp;done)|(rw [decide_eq_false (by assumption)];simp;done)|simp_all)⟩)
 exact cy 10 (h:=by exact ⟨false,rfl,H5,(by unfold je;first|(rw [decide_eq_true (by assumption)];simp;done)|(rw [decide_eq_false (by assumption)];simp;done)|simp_all)⟩)
 omega
 omega
 rintro Γ2 w5 ⟨q,rfl,H7,hq⟩
 refine cS 0 (fun air=>?_) fun air=>?_
 have hfk:=wM _ (au (d:=0) (show k<fr.length by omega))
 refine ae 3 (h:=aH (H7.b 1) (k:=ae 1 (h:=fI ((fr.getD k 0).toNat) (eH.at H7) (cN:=oz) (k:=ae 0 (h:=iL (eH.at H7) (k:=ae 0 (h:=nU (eH.at H7) (k:=ae 0 (h:=db (aw .i64) [(st.getD ((fr.getD k 0).toNat) aq).a] H7 (k:=fun w6 H8=>ae 0 (h:=fT H8 0 (H8.rt 2) (hb:=b9) (gk:=b9) (k:=fun a1 c1 w7 H9x=>?_))))))))))))
 have H9:=(H9x.drop 2).no
 exact ae 5 (h:=aX (k:=b6 2 (h:=by exact ⟨k+1,xs++[(st.getD ((fr.getD k 0).toNat) aq).a],a1,c1,rfl,(H9.re rfl),om,(by first|(rw [AN oz (by rw [←hq];assumption),hx];done)|(rw [Ee oz (by rw [←hq];assumption),hx];done)),rfl⟩)))
 exact ae 4 (h:=aX (k:=b6 2 (h:=by exact ⟨k+1,xs,xa,xc,rfl,H7,om,(by first|(rw [AN oz (by rw [←hq];assumption),hx];done)|(rw [Ee oz (by rw [←hq];assumption),hx];done)),rfl⟩)))
 refine ae 4 (h:=b8 (H5.b 1) (k:=ae 1 (h:=aM (c:=A3 eU st eT _ _ xa xs xc _ w3 (eH.at H5) (H5.rt 0) hN oz (by rw [hx,List.take_of_length_le oz];exact pV hN wM)) (k:=?_))))
 rintro _ w8 ⟨bN,cv,kM,rfl,u6,sZ⟩
 have bO:Uu3:=(H5.im u6).re rfl
 refine ae 0 (h:=aM (c:=Bb bN kM _ w8 (bO.rt 2) (by have h9:=sZ.len;omega)) (k:=?_))
 rintro _ w9 ⟨gW,jB,rfl,u7⟩
 have bR:=bO.ns u7
 exact bE 4 (h:=⟨gW,jB,kM,rfl,bR.iz 3,(by have h9:=sZ;rw [hx,List.take_of_length_le oz] at h9;exact h9)⟩)
theorem yN (Aw:aO) (xs:List Int) (Av:Nat) (BM:Nat) (G5:aO) (ys:List Int) (G4:Nat) (G3:Nat) (w:World) (tI:bH (aw .i64) w (.slice Aw BM Av) xs) (xD:bH (aw .i64) w (.slice G5 G3 G4) ys):
 Calls Tryz.prog 71 #[.slice Aw BM Av,.slice G5 G3 G4] w (bj fun v w'=>v= .bool (decide (xs=ys))∧aE w [] w' []):=by
 obtain rfl:BM=xs.length:=tI.len
 obtain rfl:G3=ys.length:=xD.len
 have Cz:=tI.le
 have Iv:=xD.le
 refine cL Tryz.func71 (h:=fun H0=>aL 15 (fun C9=>?_) fun C9=>?_)
 exact bE 6 (h:=⟨(by rw [decide_eq_false (by rintro rfl;omega)]),H0.ag⟩)
 refine cY 11 [13,12,4,0,1] (fun B R L m e v=>∃k,e=(13,bJ k)::B∧aA w L v (R)∧(k≤xs.length)∧(∀i,i<k→xs.getD i 0=ys.getD i 0)∧m=xs.length-k) (i:=⟨0,rfl,H0,om,(by intro i hi;omega),rfl⟩) (h:=?_)
 rintro m1 Γ1 w1 ⟨k,rfl,H1,hk,he,rfl⟩
 refine aL 6 (fun mi=>?_) fun mi=>?_
 refine eI 11 H1 (h:=fun w2 H2=>bY 2 2 (tI.at H2) (D:=fun _ hC=>bU k hC) (h:=bY 0 3 (tI.at H2) (D:=fun _ hC=>cn hC) (h:=bY 2 6 (xD.at H2) (D:=fun _ hC=>bU k hC) (h:=bY 0 7 (xD.at H2) (D:=fun _ hC=>cn hC) (h:=aL 3 (fun Gp=>?_) fun Gp=>?_)))))
 exact bE 6 (h:=⟨(by rw [decide_eq_false (by rintro rfl;exact Gp rfl)]),H2.ag⟩)
 exact ae 4 (h:=aX (k:=b6 2 (h:=by exact ⟨k+1,rfl,H2,om,(by exact jw he (by first|omega|(rcases h1:xs.getD k 0 with _|_<;>rcases h2:ys.getD k 0 with _|_<;>simp_all))),rfl⟩)))
 exact bE 8 (h:=⟨(by rw [decide_eq_true (eM (d:=0) oz (fun i hi=>he i oz))]),H1.ag⟩)
theorem IX (Aw:aO) (xs:List Bool) (Av:Nat) (BM:Nat) (G5:aO) (ys:List Bool) (G4:Nat) (G3:Nat) (w:World) (tI:bH bu w (.slice Aw BM Av) xs) (xD:bH bu w (.slice G5 G3 G4) ys):
 Calls Tryz.prog 72 #[.slice Aw BM Av,.slice G5 G3 G4] w (bj fun v w'=>v= .bool (decide (xs=ys))∧aE w [] w' []):=by
 obtain rfl:BM=xs.length:=tI.len
 obtain rfl:G3=ys.length:=xD.len
 have Cz:=tI.le
 have Iv:=xD.le
 refine cL Tryz.func72 (h:=fun H0=>aL 15 (fun C9=>?_) fun C9=>?_)
 exact bE 6 (h:=⟨(by rw [decide_eq_false (by rintro rfl;omega)]),H0.ag⟩)
 refine cY 11 [13,12,4,0,1] (fun B R L m e v=>∃k,e=(13,bJ k)::B∧aA w L v (R)∧(k≤xs.length)∧(∀i,i<k→xs.getD i false=ys.getD i false)∧m=xs.length-k) (i:=⟨0,rfl,H0,om,(by intro i hi;omega),rfl⟩) (h:=?_)
 rintro m1 Γ1 w1 ⟨k,rfl,H1,hk,he,rfl⟩
 refine aL 6 (fun mi=>?_) fun mi=>?_
 refine eI 11 H1 (h:=fun w2 H2=>bY 2 2 (tI.at H2) (D:=fun _ hC=>bU k hC) (h:=bY 0 3 (tI.at H2) (D:=fun _ hC=>cn hC) (h:=bY 2 6 (xD.at H2) (D:=fun _ hC=>bU k hC) (h:=bY 0 7 (xD.at H2) (D:=fun _ hC=>cn hC) (h:=?_)))))
 refine mN 0 8 ⟨_,_,_,rfl,rfl,rfl,rfl,rfl,rfl⟩ (fun _=>pH Tryz.underlying4 rfl rfl ⟨rfl,rfl⟩) (aL 2 (fun Gp=>?_) fun Gp=>?_)
 exact bE 6 (h:=⟨(by rw [decide_eq_false (by rintro rfl;exact Gp rfl)]),H2.ag⟩)
 exact ae 4 (h:=aX (k:=b6 2 (h:=by exact ⟨k+1,rfl,H2,om,(by exact jw he (by first|omega|(rcases h1:xs.getD k false with _|_<;>rcases h2:ys.getD k false with _|_<;>simp_all))),rfl⟩)))
 exact bE 8 (h:=⟨(by rw [decide_eq_true (eM (d:=false) oz (fun i hi=>he i oz))]),H1.ag⟩)
theorem xC (Aw:aO) (xs:List Int) (Av:Nat) (BM:Nat) (G5:aO) (ys:List Int) (G4:Nat) (G3:Nat) (w:World) (tI:bH (aw .i64) w (.slice Aw BM Av) xs) (xD:bH (aw .i64) w (.slice G5 G3 G4) ys):
 Calls Tryz.prog 63 #[.slice Aw BM Av,.slice G5 G3 G4] w (bj fun v w'=>v= .bool (decide (xs=ys))∧aE w [] w' []):=by
 obtain rfl:BM=xs.length:=tI.len
 obtain rfl:G3=ys.length:=xD.len
 have Cz:=tI.le
 have Iv:=xD.le
 refine cL Tryz.func63 (h:=fun H0=>aL 15 (fun Ai=>?_) fun Ai=>?_)
 exact bE 6 (h:=⟨(by rw [decide_eq_false (by rintro rfl;omega)]),H0.ag⟩)
 refine cY 9 [5,4,0,1] (fun B R L m e v=>∃k,e=(5,bJ k)::B∧aA w L v (R)∧(k≤xs.length)∧(∀i,i<k→xs.getD i 0=ys.getD i 0)∧m=xs.length-k) (i:=⟨0,rfl,H0,om,(by intro i hi;omega),rfl⟩) (h:=?_)
 rintro m1 Γ1 w1 ⟨k,rfl,H1,hk,he,rfl⟩
 refine aL 9 (fun c95=>?_) fun c95=>?_
 refine eI 5 H1 (h:=fun w2 H2=>bY 2 2 (tI.at H2) (D:=fun _ hC=>bU k hC) (h:=bY 0 3 (tI.at H2) (D:=fun _ hC=>cn hC) (h:=bY 2 6 (xD.at H2) (D:=fun _ hC=>bU k hC) (h:=bY 0 7 (xD.at H2) (D:=fun _ hC=>cn hC) (h:=aL 3 (fun rS=>?_) fun rS=>?_)))))
 exact bE 6 (h:=⟨(by rw [decide_eq_false (by rintro rfl;exact rS rfl)]),H2.ag⟩)
 exact ae 5 (h:=aX (k:=b6 2 (h:=by exact ⟨k+1,rfl,H2,om,(by exact jw he oz),rfl⟩)))
 exact bE 8 (h:=⟨(by rw [decide_eq_true (eM (d:=0) oz (fun i hi=>he i oz))]),H1.ag⟩)
theorem rJ (sa:aO) (s:List Int) (sc:Nat) (sn:Nat) (w:World) (rs:bH (aw .i64) w (.slice sa sn sc) s) (hl:s.length*8≤140737488355328):
 Calls Tryz.prog 186 #[.slice sa sn sc] w (bj fun v w'=>∃a2 c2,v=aG a2 s c2∧aE w [] w' [cg (aw .i64) 3 a2 s c2]):=by
 obtain rfl:sn=s.length:=rs.len
 have VS:=rs.le
 refine cL Tryz.func186 (h:=fun H0=>?_)
 refine aR 9 rfl (yR Tryz.underlying25 rfl (aL 2 (fun RM=>?_) fun RM=>?_))
 refine bE 6 (h:=?_)
 have e:s=[]:=rs.P0 RM
 subst e
 exact ⟨none,0,rfl,ej H0⟩
 refine aR 4 rfl (ie (T:=(aw .i64)) rfl Tryz.underlying25 zM fun w1 u1=>?_)
 have H1:=H0.nw u1
 refine ae 1 (h:=fT H1 0 (rs.at H1) (k:=fun a1 c1 w2 H2x=>?_))
 have H2:=H2x.no
 exact bE 4 (h:=⟨a1,c1,rfl,(by have hh:=H2.iz 0;exact hh)⟩)
theorem vZ:uS Tryz.prog 3 (fun a:Int=> .int .i64 a):=agi Tryz.underlying3
theorem abM:uS Tryz.prog 9 (fun a:ByteArray=> .string a):=XC Tryz.underlying9
theorem Ql:uS Tryz.prog 256 wb:=agh iX iX (fun _ _ _ _=>by kernel_rfl)
theorem yK (adP:aO) (cls:List Int) (adO:Nat) (width:Int) (w:World) (Xc:bH (aw .i64) w (.slice adP cls.length adO) cls):
 Calls Tryz.prog 113 #[.slice adP cls.length adO,ak width] w (bj fun v w'=>∃a2,∃c2:Nat,v= .slice a2 ((ax cls width).length) c2∧aE w [] w' [aj (aw .i64) (.slice a2 ((ax cls width).length) c2) 3 (ax cls width)]):=by
 have aeR:=Xc.le
 refine cL Tryz.func113 (h:=fun H0=>?_)
 refine aR 14 rfl (Rh rfl rfl ?_)
 have H1:=H0.nr (aw .i64) 3
 refine cY 4 [10,5,9,4,0] (fun B R L m e v=>∃k,∃q:List Int,∃qa qc,e=(10,bJ k)::(5,.slice qa q.length qc)::B∧aA w L v ([aj (aw .i64) (.slice qa q.length qc) 3 q]::R)∧(k≤(min width 259).toNat)∧(q=List.replicate k (-1))∧(q.length=k)∧m=(min width 259).toNat-k) (i:=⟨0,([]:List Int),none,0,rfl,H1,om,rfl,rfl,rfl⟩) (h:=?_)
 rintro m1 Γ1 w1 ⟨k,q,qa,qc,rfl,H2,hk,hq,IC,rfl⟩
 refine aL 6 (fun c59=>?_) fun c59=>?_
 refine ae 6 (h:=db (aw .i64) [-1] H2 (k:=fun w2 H3=>ae 0 (h:=fT H3 0 (H3.rt 1) (hb:=dk) (gk:=dk) (k:=fun a1 c1 w3 GK=>?_))))
 have H4:=(GK.drop 1).no
 exact ae 5 (h:=aX (k:=b6 2 (h:=by exact ⟨k+1,q++[-1],a1,c1,rfl,(H4.re rfl),om,(by rw [hq];exact (List.replicate_succ' ..).symm),gv,rfl⟩)))
 refine cY 11 [18,17,16,5,4] (fun B R L m e v=>∃j,∃r:List Int,e=(18,bJ j)::B∧aA w L v ([aj (aw .i64) (.slice qa q.length qc) 3 r]::R)∧(j≤cls.length)∧(N9 cls (min width 259).toNat r j)∧m=cls.length-j) (i:=⟨0,q,rfl,H2,om,(by rw [hq,show k=(min width 259).toNat by omega];exact N9.start cls _),rfl⟩) (h:=?_)
 rintro m2 Γ2 w4 ⟨j,r,rfl,H5,hj,hr,rfl⟩
 have hrl:=hr.len
 refine aL 6 (fun c62=>?_) fun c62=>?_
 refine ae 7 (h:=bU j (Xc.at H5) (k:=ae 0 (h:=cn (Xc.at H5) (k:=bZ 9 25 (fun g63=>?_) fun g63=>?_))))
 refine bZ 6 31 (fun ahy=>?_) fun ahy=>?_
 refine ae 2 (h:=bU ((cls.getD j 0).toNat) (H5.rt 0) (cN:=oz) (k:=ae 0 (h:=cn (H5.rt 0) (k:=aL 4 (fun Gk=>?_) fun Gk=>?_))))
 exact ae 4 (h:=bU ((cls.getD j 0).toNat) (H5.rt 0) (cN:=oz) (k:=aU 0 (h:=tH ((j:Nat):Int) H5 0 (k:=fun w5 H6=>ae 4 (h:=aX (k:=b6 2 (h:=by exact ⟨j+1,r.set ((cls.getD j 0).toNat) ((j:Nat):Int),rfl,H6,om,(by first|exact hr.put oz oz oz oz|exact hr.skip oz oz),rfl⟩)))))))
 exact ae 4 (h:=aX (k:=b6 2 (h:=by exact ⟨j+1,r,rfl,H5,om,(by first|exact hr.put oz oz oz oz|exact hr.skip oz oz),rfl⟩)))
 exact ae 13 (h:=aX (k:=b6 2 (h:=by exact ⟨j+1,r,rfl,H5,om,(by first|exact hr.put oz oz oz oz|exact hr.skip oz oz),rfl⟩)))
 exact ae 19 (h:=aX (k:=b6 2 (h:=by exact ⟨j+1,r,rfl,H5,om,(by first|exact hr.put oz oz oz oz|exact hr.skip oz oz),rfl⟩)))
 refine bE 9 (h:=?_)
 have hf:=hr.fin oz
 rw [hf]
 exact ⟨qa,qc,(by rw [show r.length=q.length by omega]),(by have h9:=H5.iz 0;rw [show q.length=r.length by omega] at h9;exact h9)⟩
theorem Fo (Aw:aO) (xs:List Int) (Av:Nat) (G5:aO) (ys:List Int) (G4:Nat) (w:World) (tI:bH (aw .i64) w (.slice Aw xs.length Av) xs) (xD:bH (aw .i64) w (.slice G5 ys.length G4) ys) (hl:xs.length≤1000000):
 Calls Tryz.prog 116 #[.slice Aw xs.length Av,.slice G5 ys.length G4] w (bj fun v w'=>∃a2,∃c2:Nat,v= .tuple #[.slice a2 ((ff xs ys).length) c2,ak (kc xs ys)]∧aE w [] w' [aj (aw .i64) (.slice a2 ((ff xs ys).length) c2) 3 (ff xs ys)]):=by
 have Cz:=tI.le
 have Iv:=xD.le
 refine cL Tryz.func116 (h:=fun H0=>aL 16 (fun zE=>?_) fun zE=>?_)
 refine gr 7 (h:=?_)
 have e1:ff xs ys=[]:=by rw [ff,if_neg oz]
 have e2:kc xs ys=0:=by rw [kc,if_neg oz]
 rw [e1,e2]
 exact ⟨none,0,rfl,ej H0⟩
 refine aR 4 rfl (qm wb (fun a:Int=>ak a) fun w1 u1=>?_)
 have H1:=H0.nw u1
 refine aR 7 rfl (iE xs.length (0:Int) (T:=(aw .i64)) rfl Tryz.underlying25 zM rfl rfl rfl rfl oz oz fun w2 u2=>?_)
 have H2:=H1.nw u2
 refine cY 12 [23,22,7,6,5,4,0,1] (fun B R L m e v=>∃k,∃q:List Int,∃mm:List ((Int×Int)×Int),e=(23,bJ k)::B∧aA w L v ([eD wb (fun a:Int=>ak a) w.heap.size mm]::[aj (aw .i64) (.slice (some ⟨w1.heap.size,0,none⟩) ((List.replicate xs.length (0:Int)).length) xs.length) 3 q]::R)∧(k≤xs.length)∧(N3 (xs.zip ys) q mm k)∧m=xs.length-k) (i:=⟨0,List.replicate xs.length (0:Int),[],rfl,(H2.re rfl),om,(by rw [show xs.length=(xs.zip ys).length by simp;omega];exact N3.start _),rfl⟩) (h:=?_)
 rintro m1 Γ1 w3 ⟨k,q,mm,rfl,H3,hk,hq,rfl⟩
 have IC:q.length=xs.length:=by rw [hq.len];simp;omega
 refine aL 6 (fun lU=>?_) fun lU=>?_
 refine eI 11 H3 (h:=fun w4 H4=>bY 2 2 (tI.at H4) (D:=fun _ hC=>bU k hC) (h:=bY 0 3 (tI.at H4) (D:=fun _ hC=>cn hC) (h:=bY 2 6 (xD.at H4) (D:=fun _ hC=>bU k hC) (h:=bY 0 7 (xD.at H4) (D:=fun _ hC=>cn hC) (h:=gZ 0 8 (D:=fun _=>ck) (h:=c7 0 9 (D:=da H4 (k:=fun w5 H5=>?_))))))))
 refine ⟨⟨trivial,(xD.at H5),(xD.at H5),trivial,trivial,(tI.at H5),(tI.at H5),trivial,trivial,trivial⟩,?_⟩
 refine c7 0 10 (D:=bC H5 2 (k:=fun w6 H6=>?_))
 refine ⟨trivial,?_⟩
 refine ae 5 (h:=b8 (H6.b 2) (k:=?_))
 refine aR 0 rfl (CV (ek:=wb) (fW:=(fun a:Int=>ak a)) (xs.getD k 0,ys.getD k 0) 0 Ql Tryz.underlying254 zM rfl rfl (H6.po 0 rfl) (cG 14 [42,10,9,8,23,22,7,6,5,4,0,1] (h:=cS 0 (fun uJ=>?_) fun uJ=>?_)))
 refine aR 3 rfl (Rm (ek:=wb) (fW:=(fun a:Int=>ak a)) Tryz.underlying254 rfl (H6.po 0 rfl) (ae 5 (h:=b8 (H6.b 2) (k:=?_))))
 refine Cd 1 rfl (iT (ek:=wb) (fW:=(fun a:Int=>ak a)) (xs.getD k 0,ys.getD k 0) ((mm.length:Nat):Int) Ql Tryz.underlying254 rfl rfl rfl (H6.dH 0) fun w7 u5=>?_)
 have H7:=H6.un 0 u5
 exact ae 6 (h:=bU k (H7.rt 1) (k:=aU 0 (h:=tH ((mm.length:Nat):Int) H7 1 (k:=fun w8 H8=>ae 4 (h:=aX (k:=b6 2 (h:=by exact ⟨k+1,q.set k ((mm.length:Nat):Int),jN mm (xs.getD k 0,ys.getD k 0) ((mm.length:Nat):Int),rfl,(H8.pm [0,1] rfl rfl),om,(by first|exact hq.vk (by simp;omega) (mM oz oz) (Jn uJ)|exact hq.new (by simp;omega) (mM oz oz) (Ny uJ)),rfl⟩)))))))
 exact ae 6 (h:=bU k (H6.rt 1) (k:=aU 0 (h:=tH ((getM mm (xs.getD k 0,ys.getD k 0)).getD 0) H6 1 (k:=fun w9 H9=>ae 4 (h:=aX (k:=b6 2 (h:=by exact ⟨k+1,q.set k ((getM mm (xs.getD k 0,ys.getD k 0)).getD 0),mm,rfl,(H9.pm [0,1] rfl rfl),om,(by first|exact hq.vk (by simp;omega) (mM oz oz) (Jn uJ)|exact hq.new (by simp;omega) (mM oz oz) (Ny uJ)),rfl⟩)))))))
 refine aR 6 rfl (Rm (ek:=wb) (fW:=(fun a:Int=>ak a)) Tryz.underlying254 rfl (H3.po 0 rfl) (gr 5 (h:=?_)))
 obtain ⟨e1,e2⟩:=hq.fin oz oz
 rw [e1,e2]
 exact ⟨(some ⟨w1.heap.size,0,none⟩),xs.length,(by rw [show q.length=(List.replicate xs.length (0:Int)).length by simp;omega]),(by have h9:=H3.iz 1;rw [show (List.replicate xs.length (0:Int)).length=q.length by simp;omega] at h9;exact h9)⟩
end Go.Proofs.YtpbgmkhmdbchpaaGreatDoor
namespace Go.Sx
theorem uX {p:Prop} (h:p:=by simp [aN];omega):p:=h
end Go.Sx
namespace Go.Proofs.YtpbgmkhmdbchpaaGreatDoor
open Go Go.Sx
theorem XF (sym:Int) (w:World):
 Calls Tryz.prog 70 #[ak sym] w (bj fun v w'=>v= .bool (decide (0≤sym∧sym<259))∧aE w [] w' []):=by
 refine cL Tryz.func70 (h:=fun H0=>bZ 10 5 (fun QR=>?_) fun QR=>?_)
 exact bE 7 (h:=⟨gv,H0.ag⟩)
 exact bE 7 (h:=⟨gv,H0.ag⟩)
theorem DU (x:Int) (g:Nat) (n:Int) (w:World) (bg:w.heap[g]?=some (.cells #[ak n] 3 (0,0))):
 Calls Tryz.prog 132 #[ak x,.pointer (some ⟨g,0,none⟩)] w (bj fun v w'=>v= .bool (decide (x<0∨n≤x))∧aE w [] w' []):=by
 refine cL Tryz.func132 (h:=fun H0=>bZ 10 6 (fun g15=>?_) fun g15=>?_)
 exact bE 8 (h:=⟨gv,H0.ag⟩)
 exact ae 1 (h:=aH (H0.oG.obj bg (by simp)) (k:=bE 6 (h:=⟨gv,H0.ag⟩)))
theorem qT (sa:aO) (s:List Int) (sc:Nat) (f:FuncId) (fc:List Value) (p:Int→Bool) (w:World) (rs:cd (aw .i64) w sa s sc) (bX:gJ Tryz.prog f) (hf:GL Tryz.prog f fc p w):
 Calls Tryz.prog 166 #[aG sa s sc,.func (.func f) #[] fc.toArray] w (bj fun v w'=>v=ak (pD p s)∧aE w [] w' []):=by
 have VS:=rs.le
 refine cL Tryz.func166 (h:=fun H0=>cY 14 [8,7,4,0,1] (fun B R L m e v=>∃k,e=(8,bJ k)::B∧aA w L v (R)∧(k≤s.length)∧(pD p s=eE p s k)∧m=s.length-k) (i:=⟨0,rfl,H0,om,rfl,rfl⟩) (h:=?_))
 rintro m1 Γ1 w1 ⟨k,rfl,H1,hk,hn,rfl⟩
 refine aL 6 (fun Nw=>?_) fun Nw=>?_
 refine ae 15 (h:=bU k (rs.at H1) (k:=ae 0 (h:=cn (rs.at H1) (k:=?_))))
 refine aR 0 rfl (kS bX rfl rfl (bj.calls (hf w1 H1.oG (s.getD k 0)) fun _ w2 p1=>?_))
 obtain ⟨rfl,u1⟩:=p1
 have H2:=H1.call u1
 refine cS 2 (fun tv=>?_) fun tv=>?_
 refine bE 7 (h:=?_)
 have e:=s7 p s k oz (by simpa using tv)
 exact ⟨(by rw [hn,e]),H2.ag⟩
 exact ae 4 (h:=aX (k:=b6 2 (h:=by exact ⟨k+1,rfl,H2,om,(by rw [hn,vD _ _ _ oz (by simpa using tv)]),rfl⟩)))
 refine bE 8 (h:=?_)
 have e:=s8 p s k oz
 exact ⟨(by rw [hn,e]),H1.ag⟩
theorem uG (sa:aO) (s:List Int) (sc:Nat) (f:FuncId) (fc:List Value) (p:Int→Bool) (w:World) (rs:cd (aw .i64) w sa s sc) (bX:gJ Tryz.prog f) (hf:GL Tryz.prog f fc p w):
 Calls Tryz.prog 131 #[aG sa s sc,.func (.func f) #[] fc.toArray] w (bj fun v w'=>v= .bool (s.any p)∧aE w [] w' []):=by
 have VS:=rs.le
 refine cL Tryz.func131 (h:=fun H0=>ae 9 (h:=aM (c:=qT sa s sc f fc p w (rs.at H0) bX (hf.keep H0.oG)) (k:=?_)))
 rintro _ w1 ⟨rfl,u1⟩
 have H1:=H0.call u1
 exact bE 5 (h:=⟨(by rw [←Nc]),H1.ag⟩)
theorem xf (la:aO) (l:List Int) (lc:Nat) (n:Int) (w:World) (rl:cd (aw .i64) w la l lc):
 Calls Tryz.prog 90 #[aG la l lc,ak n] w (bj fun v w'=>v= .bool (gL l n)∧aE w [] w' []):=by
 have dD:=rl.le
 refine cL Tryz.func90 (h:=fun H0=>ae 2 (h:=gI H0 (k:=fun w1 H1=>?_)))
 refine aR 6 rfl (od rfl rfl (ae 0 (h:=aM (c:=uG la l lc 132 [.pointer (some ⟨w.heap.size,0,none⟩)] (fun x=>decide (x<0∨n≤x)) w1 (rl.at H1) abx (fun w' hk x=>DU x _ n w' (hk.obj (H1.b 0) (by simp)))) (k:=?_))))
 rintro _ w2 ⟨rfl,u2⟩
 have H2:=H1.call u2
 exact bE 5 (h:=⟨(by rw [←LA]),H2.ag⟩)
theorem tW (d:ar) (fN:aO) (fR:aO) (gq:aO) (fM:Nat) (fQ:Nat) (gp:Nat) (w:World) (gS:cd (aw .i64) w fN d.cls fM) (iy:cd (aw .i64) w fR d.next fQ) (iM:cd bu w gq d.acc gp):
 Calls Tryz.prog 69 #[.agg #[aG fN d.cls fM,ak d.width,ak d.start,aG fR d.next fQ,aG gq d.acc gp]] w (bj fun v w'=>v= .bool (aN d)∧aE w [] w' []):=by
 have iH:=gS.le
 have iG:=iy.le
 have iJ:=iM.le
 refine cL Tryz.func69 (h:=fun H0=>ae 2 (h:=gI H0 (k:=fun w1 H1=>ae 6 (h:=aH (H1.b 0) (k:=ae 9 (h:=aH (H1.b 0) (k:=bZ 3 12 (fun g22=>?_) fun g22=>?_)))))))
 exact bE 27 (h:=⟨uX,H1.ag⟩)
 refine ae 1 (h:=aH (H1.b 0) (k:=bZ 3 17 (fun ahM=>?_) fun ahM=>?_))
 exact bE 22 (h:=⟨uX,H1.ag⟩)
 refine ae 1 (h:=aH (H1.b 0) (k:=bZ 3 22 (fun ac9=>?_) fun ac9=>?_))
 exact bE 17 (h:=⟨uX,H1.ag⟩)
 refine bZ 4 26 (fun Ys=>?_) fun Ys=>?_
 exact bE 13 (h:=⟨uX,H1.ag⟩)
 refine aL 6 (fun mr=>?_) fun mr=>?_
 exact bE 6 (h:=⟨uX,H1.ag⟩)
 have hb:=P2 (a:=(d.acc.length:Int)) (b:=d.width) (A:=4096) (B:=259) oz oz oz oz
 refine ae 3 (h:=aH (H1.b 0) (k:=ae 3 (h:=aH (H1.b 0) (k:=ae 0 (h:=GP (k:=bZ 2 39 (fun g24=>?_) fun g24=>?_))))))
 exact cG 13 [30,3,2,1] (h:=bE 7 (h:=⟨uX,H1.ag⟩))
 refine ae 1 (h:=aH (H1.b 0) (k:=bZ 3 44 (fun ahL=>?_) fun ahL=>?_))
 exact cG 8 [30,3,2,1] (h:=bE 7 (h:=⟨uX,H1.ag⟩))
 refine ae 1 (h:=aH (H1.b 0) (k:=cG 6 [30,3,2,1] (h:=aL 0 (fun mi=>?_) fun mi=>?_)))
 exact bE 6 (h:=⟨uX,H1.ag⟩)
 refine ae 6 (h:=aH (H1.b 0) (k:=ae 1 (h:=aH (H1.b 0) (k:=ae 0 (h:=aM (c:=xf fN d.cls fM _ w1 (gS.at H1)) (k:=?_))))))
 rintro _ w2 ⟨rfl,u2⟩
 have H2:=H1.call u2
 refine ik 1 55 (fun Uu=>?_) fun Uu=>?_
 refine ae 1 (h:=aH (H2.b 0) (k:=ae 1 (h:=aM (c:=xf fR d.next fQ _ w2 (iy.at H2)) (k:=?_))))
 rintro _ w3 ⟨rfl,u3⟩
 have H3:=H2.call u3
 exact bE 5 (h:=⟨(by rw [aN,decide_eq_true oz];simp [Uu]),H3.ag⟩)
 exact bE 9 (h:=⟨(by rw [aN,decide_eq_true oz];simp [Uu]),H2.ag⟩)
theorem Tq (d:ar) (fN:aO) (fR:aO) (gq:aO) (fM:Nat) (fQ:Nat) (gp:Nat) (s:Int) (Ay:aO) (word:List Int) (DQ:Nat) (w:World) (gS:cd (aw .i64) w fN d.cls fM) (iy:cd (aw .i64) w fR d.next fQ) (iM:cd bu w gq d.acc gp) (AZ:cd (aw .i64) w Ay word DQ):
 Calls Tryz.prog 41 #[.agg #[aG fN d.cls fM,ak d.width,ak d.start,aG fR d.next fQ,aG gq d.acc gp],ak s,aG Ay word DQ] w (bj fun v w'=>v=ak (o6 d s word)∧aE w [] w' []):=by
 have iH:=gS.le
 have iG:=iy.le
 have iJ:=iM.le
 have Qg:=AZ.le
 refine cL Tryz.func41 (h:=fun H0=>ae 2 (h:=gI H0 (k:=fun w1 H1=>ae 6 (h:=b8 (H1.b 0) (k:=ae 0 (h:=aM (c:=tW d fN fR gq fM fQ gp w1 (gS.at H1) (iy.at H1) (iM.at H1)) (k:=?_)))))))
 rintro _ w2 ⟨rfl,u2⟩
 have H2:=H1.call u2
 refine ik 2 12 (fun g38=>?_) fun g38=>?_
 exact bE 19 (h:=⟨(by first|rw [pW (.inl g38)]|rw [pW (.inr oz)]),H2.ag⟩)
 refine bZ 4 16 (fun ahH=>?_) fun ahH=>?_
 exact bE 15 (h:=⟨(by first|rw [pW (.inl g38)]|rw [pW (.inr oz)]),H2.ag⟩)
 refine ae 2 (h:=aH (H2.b 0) (k:=aL 5 (fun tp=>?_) fun tp=>?_))
 exact bE 6 (h:=⟨(by first|rw [pW (.inl g38)]|rw [pW (.inr oz)]),H2.ag⟩)
 refine cY 11 [25,1,24,23,6,3] (fun B R L m e v=>∃k q,e=(25,bJ k)::(1,ak q)::B∧aA w L v (R)∧(k≤word.length)∧(0≤q∧q<(d.acc.length:Int))∧(o6 d s word=eQ d word k q)∧m=word.length-k) (i:=⟨0,s,rfl,H2,om,oz,(by exact J6 g38 oz oz),rfl⟩) (h:=?_)
 rintro m1 Γ1 w3 ⟨k,q,rfl,H3,hk,hq,hr,rfl⟩
 refine aL 6 (fun SR=>?_) fun SR=>?_
 refine ae 6 (h:=bU k (AZ.at H3) (k:=ae 0 (h:=cn (AZ.at H3) (k:=ae 7 (h:=aM (c:=XF _ w3) (k:=?_))))))
 rintro _ w4 ⟨rfl,u3⟩
 have H4:=H3.call u3
 refine cS 3 (fun SQ=>?_) fun SQ=>?_
 exact bE 6 (h:=⟨(by rw [hr,En oz (by intro hh;rw [decide_eq_true hh] at SQ;exact absurd SQ (by decide))]),H4.ag⟩)
 have KL:0≤word.getD k 0∧word.getD k 0<259:=by simpa using SQ
 have cq:aN d=true:=by simpa using g38
 have KU:=jM cq KL.1 KL.2
 have Wc:=dS cq hq.1 hq.2 KU.2.1 KU.2.2.1
 exact eI 2 H4 (h:=fun w5 H5=>cP 1 1 (H5.b 0) (D:=fun _ hC=>aH hC) (h:=cP 2 4 (H5.b 0) (D:=fun _ hC=>aH hC) (h:=gZ 0 5 (D:=fun _=>GP) (h:=cP 1 7 (H5.b 0) (D:=fun _ hC=>aH hC) (h:=bY 1 9 (gS.at H5) (D:=fun _ hC=>bU ((word.getD k 0).toNat) hC (cN:=oz)) (h:=bY 0 10 (gS.at H5) (D:=fun _ hC=>cn hC) (h:=gZ 0 11 (D:=fun _=>aX) (h:=bY 0 12 (iy.at H5) (D:=fun _ hC=>bU (((q*d.width)+(d.cls.getD ((word.getD k 0).toNat) 0)).toNat) hC (cN:=oz)) (h:=bY 0 13 (iy.at H5) (D:=fun _ hC=>cn hC) (h:=ae 5 (h:=aX (k:=b6 2 (h:=by exact ⟨k+1,d.next.getD (((q*d.width)+(d.cls.getD ((word.getD k 0).toNat) 0)).toNat) 0,rfl,H5,om,oz,(by rw [hr];exact sl oz KL.1 KL.2),rfl⟩)))))))))))))
 exact bE 9 (h:=⟨(by rw [hr,vh oz]),H3.ag⟩)
theorem pM (d:ar) (fN:aO) (fR:aO) (gq:aO) (fM:Nat) (fQ:Nat) (gp:Nat) (Ay:aO) (word:List Int) (DQ:Nat) (w:World) (gS:cd (aw .i64) w fN d.cls fM) (iy:cd (aw .i64) w fR d.next fQ) (iM:cd bu w gq d.acc gp) (AZ:cd (aw .i64) w Ay word DQ):
 Calls Tryz.prog 15 #[.agg #[aG fN d.cls fM,ak d.width,ak d.start,aG fR d.next fQ,aG gq d.acc gp],aG Ay word DQ] w (bj fun v w'=>v= .bool (jx d word)∧aE w [] w' []):=by
 have iH:=gS.le
 have iG:=iy.le
 have iJ:=iM.le
 have Qg:=AZ.le
 refine cL Tryz.func15 (h:=fun H0=>ae 2 (h:=gI H0 (k:=fun w1 H1=>ae 5 (h:=b8 (H1.b 0) (k:=ae 1 (h:=aH (H1.b 0) (k:=ae 1 (h:=aM (c:=Tq d fN fR gq fM fQ gp _ Ay word _ w1 (gS.at H1) (iy.at H1) (iM.at H1) (AZ.at H1)) (k:=?_)))))))))
 rintro _ w2 ⟨rfl,u2⟩
 have H2:=H1.call u2
 have cX:=Ts d d.start word
 refine bZ 8 13 (fun g53=>?_) fun g53=>?_
 exact ae 1 (h:=aH (H2.b 0) (k:=ae 1 (h:=bU ((o6 d d.start word).toNat) (iM.at H2) (cN:=oz) (k:=ae 0 (h:=cn (iM.at H2) (k:=bE 5 (h:=⟨(by first|rw [vN oz]|rw [ot oz]),H2.ag⟩)))))))
 exact bE 10 (h:=⟨(by first|rw [vN oz]|rw [ot oz]),H2.ag⟩)
theorem pz (d:ar) (fN:aO) (fR:aO) (gq:aO) (fM:Nat) (fQ:Nat) (gp:Nat) (iI:Int) (i:Nat) (c:Int) (w:World) (gS:cd (aw .i64) w fN d.cls fM) (iy:cd (aw .i64) w fR d.next fQ) (iM:cd bu w gq d.acc gp) (lO:iI=((i:Nat):Int)) (cq:aN d=true) (hi:i<d.acc.length) (hc:0≤c∧c<259):
 Calls Tryz.prog 128 #[.agg #[aG fN d.cls fM,ak d.width,ak d.start,aG fR d.next fQ,aG gq d.acc gp],ak iI,ak c] w (bj fun v w'=>v=bJ (dN d i c)∧aE w [] w' []):=by
 subst lO
 have wH:=bo.1 cq
 have yw:=jM cq hc.1 hc.2
 have Wc:=dS (q:=(i:Int)) cq oz oz yw.2.1 yw.2.2.1
 have iH:=gS.le
 have iG:=iy.le
 have iJ:=iM.le
 exact cL Tryz.func128 (h:=fun H0=>ae 2 (h:=gI H0 (k:=fun w1 H1=>eI 4 H1 (h:=fun w2 H2=>cP 1 1 (H2.b 0) (D:=fun _ hC=>aH hC) (h:=cP 2 4 (H2.b 0) (D:=fun _ hC=>aH hC) (h:=gZ 0 5 (D:=fun _=>GP) (h:=cP 1 7 (H2.b 0) (D:=fun _ hC=>aH hC) (h:=bY 1 9 (gS.at H2) (D:=fun _ hC=>bU c.toNat hC (cN:=oz)) (h:=bY 0 10 (gS.at H2) (D:=fun _ hC=>cn hC) (h:=gZ 0 11 (D:=fun _=>aX) (h:=bY 0 12 (iy.at H2) (D:=fun _ hC=>bU (((((i:Nat):Int)*d.width)+(d.cls.getD c.toNat 0)).toNat) hC (cN:=oz)) (h:=bY 0 13 (iy.at H2) (D:=fun _ hC=>cn hC) (h:=bE 4 (h:=⟨(by exact congrArg (Value.int .i64) (pI cq hi hc).symm),H2.ag⟩))))))))))))))
theorem M1 (d:ar) (fN:aO) (fR:aO) (gq:aO) (fM:Nat) (fQ:Nat) (gp:Nat) (w:World) (gS:bH (aw .i64) w (.slice fN d.cls.length fM) d.cls) (iy:bH (aw .i64) w (.slice fR d.next.length fQ) d.next) (iM:bH bu w (.slice gq d.acc.length gp) d.acc) (cq:aN d=true):
 Calls Tryz.prog 189 #[.agg #[.slice fN d.cls.length fM,ak d.width,ak d.start,.slice fR d.next.length fQ,.slice gq d.acc.length gp]] w (bj fun v w'=>∃a2,∃hs:List Int,∃c2,v= .slice a2 hs.length c2∧aE w [] w' [aj (aw .i64) (.slice a2 hs.length c2) 3 hs]∧(N4 d hs 259)):=by
 have wH:=bo.1 cq
 have iH:=gS.le
 have iG:=iy.le
 have iJ:=iM.le
 refine cL Tryz.func189 (h:=fun H0=>ae 2 (h:=gI H0 (k:=fun w1 H1=>?_)))
 have H2:=H1.nr (aw .i64) 3
 have H3:=H2.ps [1,0]
 refine cY 15 [4,3,2,1] (fun B R L m e v=>∃s,∃q:List Int,∃qa qc,e=(4,bJ s)::(3,.slice qa q.length qc)::B∧aA w L v ([aj (aw .i64) (.slice qa q.length qc) 3 q]::R)∧(s≤259)∧(N4 d q s)∧m=259-s) (i:=⟨0,([]:List Int),none,0,rfl,H3,om,(by exact N4.start d),rfl⟩) (h:=?_)
 rintro m1 Γ1 w2 ⟨s,q,qa,qc,rfl,H4,hs,hq,rfl⟩
 have IC:=hq.len
 refine aL 7 (fun Lj=>?_) fun Lj=>?_
 refine cY 16 [6,5,4,3,2,1] (fun B R L m e v=>∃k,∃b:Bool,e=(6,bJ k)::(5,.bool b)::B∧aA w L v (R)∧(k≤q.length)∧(b=MJ d q s k)∧m=q.length-k) (i:=⟨0,true,rfl,H4,om,rfl,rfl⟩) (h:=?_)
 rintro m2 Γ2 w3 ⟨k,b,rfl,H5,hk,hb,rfl⟩
 refine aL 9 (fun mL=>?_) fun mL=>?_
 have hqb:=hq.bd (q.getD k 0) (au oz)
 refine eI 4 H5 (h:=fun w4 H6=>EI 2 18 (fun g17=>?_) fun g17=>?_)
 exact cP 1 3 (H6.b 1) (D:=fun _ hC=>aH hC) (h:=bY 2 6 (H6.rt 0) (D:=fun _ hC=>bU k hC) (h:=bY 0 7 (H6.rt 0) (D:=fun _ hC=>cn hC) (h:=bY 0 8 (gS.at H6) (D:=fun _ hC=>bU ((q.getD k 0).toNat) hC (cN:=oz)) (h:=bY 0 9 (gS.at H6) (D:=fun _ hC=>cn hC) (h:=cP 1 11 (H6.b 1) (D:=fun _ hC=>aH hC) (h:=bY 1 13 (gS.at H6) (D:=fun _ hC=>bU s hC) (h:=bY 0 14 (gS.at H6) (D:=fun _ hC=>cn hC) (h:=ae 8 (h:=aX (k:=b6 2 (h:=by exact ⟨k+1,decide ((d.cls.getD ((q.getD k 0).toNat) 0)≠(d.cls.getD s 0)),rfl,H6,om,(by first|(rw [qi oz,←hb,g17];rfl)|(rw [qi oz,←hb,Bool.eq_false_iff.2 g17];rfl)),rfl⟩)))))))))))
 exact ae 21 (h:=aX (k:=b6 2 (h:=by exact ⟨k+1,false,rfl,H6,om,(by first|(rw [qi oz,←hb,g17];rfl)|(rw [qi oz,←hb,Bool.eq_false_iff.2 g17];rfl)),rfl⟩)))
 refine cS 7 (fun y6=>?_) fun y6=>?_
 refine ae 3 (h:=db (aw .i64) [((s:Nat):Int)] H5 (k:=fun w5 H7=>ae 0 (h:=fT H7 0 (H7.rt 2) (hb:=dk) (gk:=dk) (k:=fun a1 c1 w6 Vs=>?_))))
 have H8:=(Vs.drop 2).no
 exact ae 6 (h:=aX (k:=b6 2 (h:=by exact ⟨s+1,q++[((s:Nat):Int)],a1,c1,rfl,(H8.re rfl),om,(by first|exact hq.yes|exact hq.no (by rw [←show k=q.length by omega,←hb];simpa using y6)),rfl⟩)))
 exact ae 5 (h:=aX (k:=b6 2 (h:=by exact ⟨s+1,q,qa,qc,rfl,H5,om,(by first|exact hq.yes|exact hq.no (by rw [←show k=q.length by omega,←hb];simpa using y6)),rfl⟩)))
 exact bE 9 (h:=⟨qa,q,qc,rfl,H4.iz 0,(by have e:s=259:=oz;subst e;exact hq)⟩)
theorem G7 (d:ar) (fN:aO) (fR:aO) (gq:aO) (fM:Nat) (fQ:Nat) (gp:Nat) (w:World) (gS:cd (aw .i64) w fN d.cls fM) (iy:cd (aw .i64) w fR d.next fQ) (iM:cd bu w gq d.acc gp) (cq:aN d=true):
 Calls Tryz.prog 165 #[.agg #[aG fN d.cls fM,ak d.width,ak d.start,aG fR d.next fQ,aG gq d.acc gp]] w (bj fun v w'=>∃a2,∃Xs:List (LR Bool),∃n2:Nat,∃c2,v= .slice a2 n2 c2∧aE w [] w' [aj aW (.slice a2 n2 c2) 26 Xs,aC (bh bu 4).row Xs]∧(UnP d Xs)∧(n2=d.acc.length)):=by
 have wH:=bo.1 cq
 have iH:=gS.le
 have iG:=iy.le
 have iJ:=iM.le
 refine cL Tryz.func165 (h:=fun H0=>ae 2 (h:=gI H0 (k:=fun w1 H1=>ae 6 (h:=aH (H1.b 0) (k:=?_)))))
 have H2:=H1.nw (aE.kR (bh bu 4).row w1)
 have H3:=H2.nr (aW:Ty (LR Bool)) 26
 have H4:=H3.ps [1,2,0]
 refine cY 16 [5,4,3,2,1] (fun B R L m e v=>∃s,∃Xs:List (LR Bool),∃oa oc,e=(5,bJ s)::(4,aG oa Xs oc)::B∧aA w L v ([aC (bh bu 4).row Xs]::[cg aW 26 oa Xs oc]::R)∧(s≤d.acc.length)∧(Vn d Xs s)∧m=d.acc.length-s) (i:=⟨0,([]:List (LR Bool)),none,0,rfl,H4,om,(by exact Vn.start d),rfl⟩) (h:=?_)
 rintro m1 Γ1 w2 ⟨s,Xs,oa,oc,rfl,H5,hs,hX,rfl⟩
 have hXl:=hX.len
 refine aL 8 (fun qL=>?_) fun qL=>?_
 refine aR 7 rfl (iE d.acc.length false (T:=bu) rfl Tryz.underlying26 Tg rfl rfl rfl rfl oz oz fun w3 u2=>?_)
 have H6:=H5.nw u2
 have H7:=H6.ps [3,0,1,2]
 refine cY 10 [7,6,5,4,3,2,1] (fun B R L m e v=>∃k,∃q:List Bool,e=(7,bJ k)::B∧aA w L v ([aj bu (aG (some ⟨w2.heap.size,0,none⟩) (List.replicate d.acc.length false) d.acc.length) 4 q]::R)∧(k≤d.acc.length)∧(WB d s q k)∧m=d.acc.length-k) (i:=⟨0,List.replicate d.acc.length false,rfl,H7,om,(by exact WB.start oz),rfl⟩) (h:=?_)
 rintro m2 Γ2 w4 ⟨k,q,rfl,H8,hk,hq,rfl⟩
 have IC:=hq.len
 refine aL 8 (fun ju=>?_) fun ju=>?_
 refine eI 4 H8 (h:=fun w5 H9=>cP 3 3 (H9.b 3) (D:=fun _ hC=>aH hC) (h:=bY 1 5 (iM.at H9) (D:=fun _ hC=>bU s hC) (h:=bY 0 6 (iM.at H9) (D:=fun _ hC=>cn hC) (h:=cP 1 8 (H9.b 3) (D:=fun _ hC=>aH hC) (h:=bY 1 10 (iM.at H9) (D:=fun _ hC=>bU k hC) (h:=bY 0 11 (iM.at H9) (D:=fun _ hC=>cn hC) (h:=?_)))))))
 refine mN 0 12 ⟨_,_,_,rfl,rfl,rfl,rfl,rfl,rfl⟩ (fun _=>pH Tryz.underlying4 rfl rfl ⟨rfl,rfl⟩) (bY 0 13 (H9.rt 0) (D:=fun _ hC=>bU k hC) (h:=c7 0 14 (D:=tH (decide ((d.acc.getD s false)≠(d.acc.getD k false))) H9 0 (k:=fun w6 bO=>?_))))
 refine ⟨trivial,?_⟩
 exact ae 5 (h:=aX (k:=b6 2 (h:=by exact ⟨k+1,q.set k (decide ((d.acc.getD s false)≠(d.acc.getD k false))),rfl,bO,om,(by exact hq.step oz rfl),rfl⟩)))
 refine ae 5 (h:=db aW ([⟨(some ⟨w2.heap.size,0,none⟩),(List.replicate d.acc.length false).length,d.acc.length,q⟩]:List (LR Bool)) H8 (k:=fun w7 bR=>ae 0 (h:=fT bR 2 (bR.rt 4) (k:=fun a1 c1 w8 Su=>?_))))
 have cm:=(Su.drop 4).no
 have cW:aA _ _ _ [[],[_],[_],[_],[]]:=(aA.kC (f:=(bh bu 4).row) (⟨(some ⟨w2.heap.size,0,none⟩),(List.replicate d.acc.length false).length,d.acc.length,q⟩:(LR Bool)) cm 1 0 rfl rfl rfl).re rfl
 exact ae 6 (h:=aX (k:=b6 2 (h:=by exact ⟨s+1,Xs++([⟨(some ⟨w2.heap.size,0,none⟩),(List.replicate d.acc.length false).length,d.acc.length,q⟩]:List (LR Bool)),a1,c1,rfl,(cW.re rfl),om,(by exact hX.step hq oz),rfl⟩)))
 refine ae 4 (h:=b8 (H5.b 2) (k:=ae 0 (h:=aM (c:=M1 d fN fR gq fM fQ gp w2 (gS.at H5) (iy.at H5) (iM.at H5) oz) (k:=?_))))
 rintro _ w9 ⟨bN,kt,cv,rfl,u6,q1⟩
 have cH:Uu4:=(H5.im u6).re rfl
 refine cY 10 [9,8,4,3,2,1] (fun B R L m e v=>∃tt,∃Y:List (LR Bool),e=(9,bJ tt)::B∧aA w L v ([aC (bh bu 4).row Y]::[aj aW (aG oa Xs oc) 26 Y]::R)∧(tt≤d.acc.length)∧(DN d Y tt 0 0)∧m=d.acc.length-tt) (i:=⟨0,Xs,rfl,cH,om,(by exact hX.done oz),rfl⟩) (h:=?_)
 rintro m3 Γ3 gK ⟨tt,Y,rfl,cI,ht,hY,rfl⟩
 refine aL 8 (fun tp=>?_) fun tp=>?_
 refine cY 10 [10,9,8,4,3,2,1] (fun B R L m e v=>∃i,∃Z:List (LR Bool),e=(10,bJ i)::B∧aA w L v ([aC (bh bu 4).row Z]::[aj aW (aG oa Xs oc) 26 Z]::R)∧(i≤d.acc.length)∧(DN d Z tt i 0)∧m=d.acc.length-i) (i:=⟨0,Y,rfl,cI,om,(by exact hY),rfl⟩) (h:=?_)
 rintro m4 Γ4 iu ⟨i,Z,rfl,cT,hi,hZ,rfl⟩
 refine aL 8 (fun wV=>?_) fun wV=>?_
 refine cY 10 [11,10,9,8,4,3,2,1] (fun B R L m e v=>∃kk,∃U:List (LR Bool),e=(11,bJ kk)::B∧aA w L v ([aC (bh bu 4).row U]::[aj aW (aG oa Xs oc) 26 U]::R)∧(kk≤d.acc.length)∧(DN d U tt i kk)∧m=d.acc.length-kk) (i:=⟨0,Z,rfl,cT,om,(by exact hZ),rfl⟩) (h:=?_)
 rintro m5 Γ5 iW ⟨kk,U,rfl,dj,Ug,hU,rfl⟩
 refine aL 8 (fun RL=>?_) fun RL=>?_
 refine cY 10 [12,11,10,9,8,4,3,2,1] (fun B R L m e v=>∃c,∃V:List (LR Bool),e=(12,bJ c)::B∧aA w L v ([aC (bh bu 4).row V]::[aj aW (aG oa Xs oc) 26 V]::R)∧(c≤kt.length)∧(ZQ d kt V tt i kk c)∧m=kt.length-c) (i:=⟨0,U,rfl,dj,om,(by exact hU.inner),rfl⟩) (h:=?_)
 rintro m6 Γ6 iV ⟨c,V,rfl,dY,hc,hV,rfl⟩
 have ng:=hV.u.row i oz
 have hVl:=hV.u.len
 refine bZ 8 67 (fun g41=>?_) fun g41=>?_
 refine ae 2 (h:=bU i (dY.rt 1) (k:=ae 0 (h:=cn (dY.rt 1) (k:=ae 1 (h:=bU kk (show bH bu iV (.slice ((V.getD i ai).a) ((V.getD i ai).n) ((V.getD i ai).c)) ((V.getD i ai).xs) from (ga.own (dY.cB 0 rfl)).get ai i oz) (k:=ae 0 (h:=cn (show bH bu iV (.slice ((V.getD i ai).a) ((V.getD i ai).n) ((V.getD i ai).c)) ((V.getD i ai).xs) from (ga.own (dY.cB 0 rfl)).get ai i oz) (k:=cS 4 (fun SR=>?_) fun SR=>?_))))))))
 have hhl:=q1.len
 have hcb:=q1.bd (kt.getD c 0) (au oz)
 have hd1:=nC cq (i:=i) oz hcb
 have hd2:=nC cq (i:=kk) oz hcb
 have iK:=hV.u.row (dN d i (kt.getD c 0)) hd1
 refine eI 4 dY (h:=fun lT eJ=>bY 2 2 (eJ.rt 1) (D:=fun _ hC=>bU i hC) (h:=bY 0 3 (eJ.rt 1) (D:=fun _ hC=>cn hC) (h:=cP 2 6 (eJ.b 2) (D:=fun _ hC=>b8 hC) (h:=bY 3 10 (eJ.rt 3) (D:=fun _ hC=>bU c hC) (h:=bY 0 11 (eJ.rt 3) (D:=fun _ hC=>cn hC) (h:=cP 0 15 (eJ.b 2) (D:=fun _ hC=>b8 hC) (h:=bY 3 19 (eJ.rt 3) (D:=fun _ hC=>bU c hC) (h:=bY 0 20 (eJ.rt 3) (D:=fun _ hC=>cn hC) (h:=c7 0 12 (D:=aM (c:=pz d fN fR gq fM fQ gp _ i _ lT (gS.at eJ) (iy.at eJ) (iM.at eJ) oz cq oz hcb) (k:=?_)))))))))))
 rintro _ qx ⟨rfl,u7⟩
 have dB:=eJ.call u7
 refine ⟨⟨(dB.rt 3),(dB.rt 3),trivial,trivial,trivial,(dB.b 2),trivial,trivial,(dB.rt 1),(dB.rt 1),trivial,trivial,trivial⟩,?_⟩
 refine bY 0 13 (dB.rt 1) (D:=fun _ hC=>bU (dN d i (kt.getD c 0)) hC) (h:=bY 0 14 (dB.rt 1) (D:=fun _ hC=>cn hC) (h:=c7 0 21 (D:=aM (c:=pz d fN fR gq fM fQ gp _ kk _ qx (gS.at dB) (iy.at dB) (iM.at dB) oz cq oz hcb) (k:=?_))))
 rintro _ qw ⟨rfl,u8⟩
 have gu:=dB.call u8
 refine ⟨⟨(gu.rt 1),(gu.rt 1),trivial,trivial,(gu.rt 1),(gu.rt 1),trivial,trivial,trivial⟩,?_⟩
 refine bY 0 22 (show bH bu qw (.slice ((V.getD (dN d i (kt.getD c 0)) ai).a) ((V.getD (dN d i (kt.getD c 0)) ai).n) ((V.getD (dN d i (kt.getD c 0)) ai).c)) ((V.getD (dN d i (kt.getD c 0)) ai).xs) from (ga.own (gu.cB 0 rfl)).get ai (dN d i (kt.getD c 0)) oz) (D:=fun _ hC=>bU (dN d kk (kt.getD c 0)) hC) (h:=bY 0 23 (show bH bu qw (.slice ((V.getD (dN d i (kt.getD c 0)) ai).a) ((V.getD (dN d i (kt.getD c 0)) ai).n) ((V.getD (dN d i (kt.getD c 0)) ai).c)) ((V.getD (dN d i (kt.getD c 0)) ai).xs) from (ga.own (gu.cB 0 rfl)).get ai (dN d i (kt.getD c 0)) oz) (D:=fun _ hC=>cn hC) (h:=bY 0 24 (show bH bu qw (.slice ((V.getD i ai).a) ((V.getD i ai).n) ((V.getD i ai).c)) ((V.getD i ai).xs) from (ga.own (gu.cB 0 rfl)).get ai i oz) (D:=fun _ hC=>bU kk hC) (h:=?_)))
 have gQ:Uu5:=gu.iw (f:=(bh bu 4).row) ai 0 i rfl oz
 refine c7 0 25 (D:=tH (((V.getD (dN d i (kt.getD c 0)) ai).xs).getD (dN d kk (kt.getD c 0)) false) gQ 4 (xs:=((V.getD i ai).xs)) (k:=fun uW jy=>?_))
 have lv:Uu4x1:=(jy.jl (f:=(bh bu 4).row) ⟨(V.getD i ai).a,(V.getD i ai).n,(V.getD i ai).c,((V.getD i ai).xs).set kk (((V.getD (dN d i (kt.getD c 0)) ai).xs).getD (dN d kk (kt.getD c 0)) false)⟩ 0 4 i rfl rfl rfl oz).re rfl
 have j5:Uu4x1:=lv.xQ (((V.getD i ai).xs).set kk (((V.getD (dN d i (kt.getD c 0)) ai).xs).getD (dN d kk (kt.getD c 0)) false)) 1 i rfl oz
 refine ⟨trivial,?_⟩
 exact cG 3 [75,74,73,72,71,70,69,68,12,11,10,9,8,4,3,2,1] (h:=ae 2 (h:=aX (k:=b6 2 (h:=by exact ⟨c+1,V.set i ⟨(V.getD i ai).a,(V.getD i ai).n,(V.getD i ai).c,((V.getD i ai).xs).set kk (((V.getD (dN d i (kt.getD c 0)) ai).xs).getD (dN d kk (kt.getD c 0)) false)⟩,rfl,(j5.re rfl),om,(by exact hV.step cq oz oz hcb (by simpa [bx] using SR) rfl),rfl⟩))))
 exact ae 5 (h:=aX (k:=b6 2 (h:=by exact ⟨kk+1,V,rfl,dY,om,(by first|exact hV.next q1 oz oz (.inl oz)|exact hV.next q1 oz oz (.inr (by simpa [bx] using SR))),rfl⟩)))
 exact ae 17 (h:=aX (k:=b6 2 (h:=by exact ⟨kk+1,V,rfl,dY,om,(by first|exact hV.next q1 oz oz (.inl oz)|exact hV.next q1 oz oz (.inr (by simpa [bx] using SR))),rfl⟩)))
 exact ae 5 (h:=aX (k:=b6 2 (h:=by exact ⟨i+1,U,rfl,dj,om,(by exact hU.pY oz),rfl⟩)))
 exact ae 5 (h:=aX (k:=b6 2 (h:=by exact ⟨tt+1,Z,rfl,cT,om,(by exact hZ.afE oz),rfl⟩)))
 exact bE 9 (h:=⟨oa,Y,Xs.length,oc,rfl,(cI.se [1,0]),hY.fin cq oz,oz⟩)
theorem rk (fa:aO) (f:List Int) (fc:Nat) (w:World) (rf:cd (aw .i64) w fa f fc) (hf:kE f) (hl:f.length≤100000):
 Calls Tryz.prog 129 #[aG fa f fc] w (bj fun v w'=>∃a2,∃c2:Nat,v= .tuple #[aG a2 (bp f) c2,bJ (dd f).length]∧aE w [] w' [cg (aw .i64) 3 a2 (bp f) c2]):=by
 have ajI:=rf.le
 refine cL Tryz.func129 (h:=fun H0=>?_)
 have H1:=H0.nr (aw .i64) 3
 refine cY 23 [6,5,4,3,2,0] (fun B R L m e v=>∃i nn,∃q:List Int,∃qa qc,e=(6,bJ i)::(5,bJ nn)::(4,aG qa q qc)::B∧aA w L v ([cg (aw .i64) 3 qa q qc]::R)∧(i≤f.length)∧(nn=(dd (f.take i)).length)∧(q=bp (f.take i))∧m=f.length-i) (i:=⟨0,0,([]:List Int),none,0,rfl,H1,om,rfl,rfl,rfl⟩) (h:=?_)
 rintro m1 Γ1 w1 ⟨i,nn,q,qa,qc,rfl,H2,hi,hn,hq,rfl⟩
 have IC:q.length≤i:=by rw [hq,gE];simp;omega
 have MV:nn≤i:=by rw [hn];exact Nat.le_trans (I0 _) gv
 refine aL 9 (fun c13=>?_) fun c13=>?_
 refine ae 8 (h:=bU i (rf.at H2) (k:=ae 0 (h:=cn (rf.at H2) (k:=aL 4 (fun Lj=>?_) fun Lj=>?_))))
 refine ae 4 (h:=db (aw .i64) [((nn:Nat):Int)] H2 (k:=fun w2 H3=>ae 0 (h:=fT H3 0 (H3.rt 1) (hb:=dk) (gk:=dk) (k:=fun a1 c1 w3 GK=>?_))))
 have H4:=(GK.drop 1).no
 exact ae 5 (h:=aX (k:=ae 6 (h:=aX (k:=b6 2 (h:=by exact ⟨i+1,nn+1,q++[((nn:Nat):Int)],a1,c1,rfl,(H4.re rfl),om,(by first|exact (hn▸(hf.sd oz Lj).2.symm)|exact hn.trans (congrArg List.length (hf.sb oz Lj).2.symm)),(by first|(rw [hq,hn];exact (hf.sd oz Lj).1)|(rw [hq];exact (hf.sb oz Lj).1)),rfl⟩)))))
 have hfo:=hf.vk (i:=i) oz Lj
 have hfi:=hf i oz
 have alW:q.length=i:=by rw [hq,gE];simp;omega
 refine ae 5 (h:=bU i (rf.at H2) (k:=ae 0 (h:=cn (rf.at H2) (k:=ae 0 (h:=bU ((f.getD i 0).toNat) (H2.rt 0) (cN:=oz) (k:=ae 0 (h:=cn (H2.rt 0) (k:=ae 0 (h:=db (aw .i64) [q.getD ((f.getD i 0).toNat) 0] H2 (k:=fun w4 H5=>ae 0 (h:=fT H5 0 (H5.rt 1) (hb:=dk) (gk:=dk) (k:=fun a2 c2 w5 Vu=>?_))))))))))))
 have H6:=(Vu.drop 1).no
 exact ae 6 (h:=aX (k:=b6 2 (h:=by exact ⟨i+1,nn,q++[q.getD ((f.getD i 0).toNat) 0],a2,c2,rfl,(H6.re rfl),om,(by first|exact (hn▸(hf.sd oz Lj).2.symm)|exact hn.trans (congrArg List.length (hf.sb oz Lj).2.symm)),(by first|(rw [hq,hn];exact (hf.sd oz Lj).1)|(rw [hq];exact (hf.sb oz Lj).1)),rfl⟩)))
 refine gr 11 (h:=?_)
 have e1:bp f=q:=by rw [hq,List.take_of_length_le oz]
 have e2:(dd f).length=nn:=by rw [hn,List.take_of_length_le oz]
 rw [e1,e2]
 exact ⟨qa,qc,rfl,(by have hh:=H2.iz 0;exact hh)⟩
theorem IT (la:aO) (l:List Int) (lc:Nat) (x:Int) (w:World) (rl:cd (aw .i64) w la l lc):
 Calls Tryz.prog 130 #[aG la l lc,ak x] w (bj fun v w'=>v=ak (dp x l)∧aE w [] w' []):=by
 have dD:=rl.le
 refine cL Tryz.func130 (h:=fun H0=>cY 12 [5,4,0,1] (fun B R L m e v=>∃k,e=(5,bJ k)::B∧aA w L v (R)∧(k≤l.length)∧(∀i,i<k→l.getD i 0≠x)∧m=l.length-k) (i:=⟨0,rfl,H0,om,(by intro i hi;omega),rfl⟩) (h:=?_))
 rintro m1 Γ1 w1 ⟨k,rfl,H1,hk,qJ,rfl⟩
 refine aL 9 (fun Gj=>?_) fun Gj=>?_
 refine ae 8 (h:=bU k (rl.at H1) (k:=ae 0 (h:=cn (rl.at H1) (k:=aL 4 (fun Ji=>?_) fun Ji=>?_))))
 exact bE 7 (h:=⟨(by rw [Bt oz (by assumption) qJ]),H1.ag⟩)
 exact ae 5 (h:=aX (k:=b6 2 (h:=by exact ⟨k+1,rfl,H1,om,(by exact jw qJ (by assumption)),rfl⟩)))
 exact bE 8 (h:=⟨(by rw [vC (fun i hi=>qJ i oz)]),H1.ag⟩)
theorem Dk (d:ar) (fN:aO) (fR:aO) (gq:aO) (fM:Nat) (fQ:Nat) (gp:Nat) (w:World) (gS:cd (aw .i64) w fN d.cls fM) (iy:cd (aw .i64) w fR d.next fQ) (iM:cd bu w gq d.acc gp) (cq:aN d=true):
 Calls Tryz.prog 126 #[.agg #[aG fN d.cls fM,ak d.width,ak d.start,aG fR d.next fQ,aG gq d.acc gp]] w (bj fun v w'=>∃a2,∃bl:List Int,∃c2 bn,v= .tuple #[aG a2 bl c2,ak bn]∧aE w [] w' [cg (aw .i64) 3 a2 bl c2]∧(∃f,Lu d f d.acc.length∧bl=bp f∧bn=((dd f).length:Int))):=by
 have wH:=bo.1 cq
 have iH:=gS.le
 have iG:=iy.le
 have iJ:=iM.le
 refine cL Tryz.func126 (h:=fun H0=>ae 2 (h:=gI H0 (k:=fun w1 H1=>ae 6 (h:=b8 (H1.b 0) (k:=ae 0 (h:=aM (c:=G7 d fN fR gq fM fQ gp w1 (gS.at H1) (iy.at H1) (iM.at H1) oz) (k:=?_)))))))
 rintro _ w2 ⟨bN,ov,Ij,cv,rfl,u2,q1,q2⟩
 have H2:=H1.ns u2
 have H3:=H2.nr (aw .i64) 3
 have H4:=H3.ps [3,0,1,2]
 refine cY 15 [6,5,4,3,2] (fun B R L m e v=>∃i,∃q:List Int,∃qa qc,e=(6,bJ i)::(5,aG qa q qc)::B∧aA w L v ([cg (aw .i64) 3 qa q qc]::R)∧(i≤ov.length)∧(Lu d q i)∧m=ov.length-i) (i:=⟨0,([]:List Int),none,0,rfl,H4,oz,(by exact Lu.start d),rfl⟩) (h:=?_)
 rintro m1 Γ1 w3 ⟨i,q,qa,qc,rfl,H5,hi,hq,rfl⟩
 have IC:=hq.len
 have hXl:=q1.len
 refine aL 9 (fun c54=>?_) fun c54=>?_
 refine ae 14 (h:=jK (k:=cY 4 [8,7,6,5,4,3,2] (fun B R L m e v=>∃y aa,e=(8,ak y)::(7,ak aa)::B∧aA w L v (R)∧(-1≤y∧y<(i:Int))∧(Sw d i aa y)∧m=(y+1).toNat) (i:=⟨((i:Nat):Int)-1,((i:Nat):Int),rfl,H5,oz,(by exact Sw.start d i),rfl⟩) (h:=?_)))
 rintro m2 Γ2 w4 ⟨y,aa,rfl,H6,hy,iP,rfl⟩
 have agz:=q1.row i oz
 refine aL 7 (fun c56=>?_) fun c56=>?_
 refine ae 8 (h:=bU i (H6.rt 2) (k:=ae 0 (h:=cn (H6.rt 2) (k:=ae 1 (h:=bU y.toNat (show bH bu w4 (.slice ((ov.getD i ai).a) ((ov.getD i ai).n) ((ov.getD i ai).c)) ((ov.getD i ai).xs) from (ga.own (H6.cB 3 rfl)).get ai i oz) (cN:=oz) (k:=ae 0 (h:=cn (show bH bu w4 (.slice ((ov.getD i ai).a) ((ov.getD i ai).n) ((ov.getD i ai).c)) ((ov.getD i ai).xs) from (ga.own (H6.cB 3 rfl)).get ai i oz) (k:=cS 3 (fun U9=>?_) fun U9=>?_))))))))
 exact ae 8 (h:=jK (k:=b6 2 (h:=by exact ⟨y-1,y,rfl,H6,oz,(by first|exact iP.hit oz (fun h9=>by have h8:=(q1.val i y.toNat oz oz).2 h9;simp [bx] at h8 U9;simp_all)|exact iP.P7 oz ((q1.val i y.toNat oz oz).1 (by simpa [bx] using U9))),rfl⟩)))
 exact ae 5 (h:=jK (k:=b6 2 (h:=by exact ⟨y-1,aa,rfl,H6,oz,(by first|exact iP.hit oz (fun h9=>by have h8:=(q1.val i y.toNat oz oz).2 h9;simp [bx] at h8 U9;simp_all)|exact iP.P7 oz ((q1.val i y.toNat oz oz).1 (by simpa [bx] using U9))),rfl⟩)))
 refine ae 5 (h:=db (aw .i64) [aa] H6 (k:=fun w5 H7=>ae 0 (h:=fT H7 0 (H7.rt 4) (hb:=dk) (gk:=dk) (k:=fun a1 c1 w6 Vs=>?_))))
 have H8:=(Vs.drop 4).no
 exact ae 6 (h:=aX (k:=b6 2 (h:=by exact ⟨i+1,q++[aa],a1,c1,rfl,(H8.re rfl),oz,(by exact hq.step iP oz oz),rfl⟩)))
 refine ae 5 (h:=aM (c:=rk qa q qc w3 (H5.rt 0) hq.first oz) (k:=?_))
 rintro _ w7 ⟨gW,jB,rfl,u5⟩
 have H9:Uu5:=(H5.im u5).re rfl
 exact gr 7 (h:=⟨gW,bp q,jB,(((dd q).length:Nat):Int),rfl,H9.iz 4,⟨q,by have e:i=d.acc.length:=oz;subst e;exact hq,rfl,rfl⟩⟩)
theorem uq (Aw:aO) (xs:List Int) (Av BM:Nat) (G5:aO) (ys:List Int) (G4 G3:Nat) (w:World) (tI:bH (aw .i64) w (.slice Aw BM Av) xs) (xD:bH (aw .i64) w (.slice G5 G3 G4) ys) (hl:xs.length≤1000000):
    Calls Tryz.prog 116 #[.slice Aw BM Av,.slice G5 G3 G4] w (bj fun v w'=>∃a2:aO,∃c2:Nat,v= .tuple #[.slice a2 ((ff xs ys).length) c2,.int .i64 (kc xs ys)]∧aE w [] w' [aj (aw .i64) (.slice a2 ((ff xs ys).length) c2) 3 (ff xs ys)]):=by
  obtain rfl:BM=xs.length:=tI.len
  obtain rfl:G3=ys.length:=xD.len
  exact Fo Aw xs Av G5 ys G4 w tI xD hl
theorem Gf (eU:aO) (st:List ay) (eT:Nat) (s0:Int) (f0:Int) (w:World) (eH:bH aP w (.slice eU st.length eT) st) (rT:bH fh w (.slice (some ⟨0,0,none⟩) rG.length 64) rG) (hN:oU st s0 f0):
 Calls Tryz.prog 111 #[.agg #[.slice eU st.length eT,ak s0,ak f0]] w (bj fun v w'=>∃a2 c2,∃cls:List Int,∃wd,v= .tuple #[.slice a2 cls.length c2,ak wd]∧aE w [] w' [aj (aw .i64) (.slice a2 cls.length c2) 3 cls]∧(Au st cls wd)):=by
 have hl:=hN.len
 have jQ:=eH.le
 have kH:=rT.le
 refine cL Tryz.func111 (h:=fun H0=>ae 2 (h:=gI H0 (k:=fun w1 H1=>ae 7 (h:=b8 (H1.b 0) (k:=ae 0 (h:=aM (c:=rm eU st eT _ _ w1 (eH.at H1) hN) (k:=?_)))))))
 rintro _ w2 ⟨rfl,u2⟩
 have H2:=H1.call u2
 refine aR 8 rfl (iE 259 (0:Int) (T:=(aw .i64)) rfl Tryz.underlying25 zM rfl rfl rfl rfl oz oz fun w3 u3=>?_)
 have H3:=H2.nw u3
 have H4:=H3.ps [1,0]
 refine cY 10 [5,4,3,2,1] (fun B R L m e v=>∃k:Nat,∃b:List Int,e=(5,bJ (256+k))::B∧aA w L v ([aj (aw .i64) (.slice (some ⟨w2.heap.size,0,none⟩) ((List.replicate 259 (0:Int)).length) 259) 3 b]::R)∧(k≤3)∧(vP b k)∧m=3-k) (i:=⟨0,List.replicate 259 (0:Int),rfl,H4,om,(by exact vP.start),rfl⟩) (h:=?_)
 rintro m1 Γ1 w4 ⟨k,b,rfl,H5,hk,hb,rfl⟩
 have GW:=hb.1
 refine aL 7 (fun tp=>?_) fun tp=>?_
 exact ae 8 (h:=jK (k:=ae 0 (h:=aX (k:=ae 0 (h:=bU (256+k) (H5.rt 0) (hj:=(by first|omega|(rw [GW];omega))) (k:=aU 0 (h:=tH ((((256+k:Nat):Int)-256)+1) H5 0 (hj:=(by first|omega|(rw [GW];omega))) (k:=fun w5 H6=>ae 5 (h:=aX (k:=b6 2 (h:=by exact ⟨k+1,b.set (256+k) ((((256+k:Nat):Int)-256)+1),rfl,H6,om,(by exact hb.step oz oz),rfl⟩)))))))))))
 refine ae 11 (h:=aM (c:=uq _ b 259 ((List.replicate 259 (0:Int)).length) _ b 259 ((List.replicate 259 (0:Int)).length) w4 (H5.rt 0) (H5.rt 0) oz) (k:=?_))
 rintro _ w6 ⟨bN,cv,rfl,u5⟩
 have H7:Uu3:=(H5.im u5).re rfl
 refine ae 11 (h:=aH (H7.b 1) (k:=?_))
 have H8:=H7.ps [2,0,1]
 refine cY 5 [35,6,4,34,33,3,2] (fun B R L m e v=>∃q,∃c:List Int,∃ca cc wd,e=(35,bJ q)::(6,ak wd)::(4,.slice ca c.length cc)::B∧aA w L v ([aj (aw .i64) (.slice ca c.length cc) 3 c]::R)∧(q≤st.length)∧(rO st q c wd)∧m=st.length-q) (i:=⟨0,ff b b,bN,cv,kc b b,rfl,H8,om,(by rw [show k=3 by omega] at hb;exact rO.base hb),rfl⟩) (h:=?_)
 rintro m2 Γ2 w7 ⟨q,c,ca,cc,wd,rfl,H9,hq,hc,rfl⟩
 have Um:=hc.len
 refine aL 6 (fun SP=>?_) fun SP=>?_
 refine ae 6 (h:=fI q (eH.at H9) (k:=ae 0 (h:=zt (eH.at H9) (k:=ae 0 (h:=da H9 (k:=fun w8 bO=>aU 0 (h:=bC bO 3 (k:=fun w9 bR=>ae 6 (h:=aH (bR.b 3) (k:=aL 3 (fun Zh=>?_) fun Zh=>?_))))))))))
 exact ae 3 (h:=aX (k:=b6 2 (h:=by exact ⟨q+1,c,ca,cc,wd,rfl,(bR.pm [0,1,2] rfl rfl),om,(by first|exact hc.skip ((hN.IQ q oz).1.2.2.1 (by assumption))|exact hc.join hv.1 (hv.done oz)),rfl⟩)))
 refine aR 4 rfl (iE 259 (0:Int) (T:=(aw .i64)) rfl Tryz.underlying25 zM rfl rfl rfl rfl oz oz fun gK u8=>?_)
 have cm:=bR.nw u8
 refine ae 7 (h:=b8 (cm.b 3) (k:=ae 0 (h:=aM (c:=BD ((st.getD q aq).set) gK (rT.at cm)) (k:=?_))))
 rintro _ iu ⟨gW,jB,rfl,u9⟩
 have cW:=cm.ns u9
 have cH:=cW.ps [4,0,1,2,3,5]
 refine cY 5 [47,46,45,9,35,4,34,33,3,2] (fun B R L m e v=>∃j,∃u:List Int,e=(47,bJ j)::B∧aA w L v ([aj (aw .i64) (.slice (some ⟨w9.heap.size,0,none⟩) ((List.replicate 259 (0:Int)).length) 259) 3 u]::R)∧(j≤(bK (st.getD q aq).set).length)∧(Vr (st.getD q aq).set u j)∧m=(bK (st.getD q aq).set).length-j) (i:=⟨0,List.replicate 259 (0:Int),rfl,cH,om,(by exact Vr.start _),rfl⟩) (h:=?_)
 rintro m3 Γ3 iW ⟨j,u,rfl,cI,hj,hv,rfl⟩
 have hvl:=hv.1
 have M4:=Jm (st.getD q aq).set
 refine aL 6 (fun Zg=>?_) fun Zg=>?_
 refine ae 6 (h:=bU j (cI.rt 5) (k:=ae 0 (h:=cn (cI.rt 5) (k:=?_))))
 have Ye:=(fj.1 (au (d:=0) (show j<(bK (st.getD q aq).set).length by omega))).1
 exact ae 6 (h:=bU ((bK ((st.getD q aq).set)).getD j 0) (cI.rt 0) (hj:=(by first|omega|(rw [hvl];omega))) (k:=aU 0 (h:=tH 1 cI 0 (T:=(aw .i64)) (hj:=(by first|omega|(rw [hvl];omega))) (k:=fun iV cT=>ae 4 (h:=aX (k:=b6 2 (h:=by exact ⟨j+1,u.set ((bK ((st.getD q aq).set)).getD j 0) 1,rfl,cT,om,(by exact hv.step oz),rfl⟩)))))))
 refine ae 5 (h:=aM (c:=uq ca c cc c.length _ u 259 ((List.replicate 259 (0:Int)).length) iW (cI.rt 1) (cI.rt 0) oz) (k:=?_))
 rintro _ lT ⟨kW,oj,rfl,zJ⟩
 have dj:Uu7:=(cI.im zJ).re rfl
 exact ae 9 (h:=aX (k:=b6 2 (h:=by exact ⟨q+1,ff c u,kW,oj,kc c u,rfl,(dj.pm [6,2,3] rfl rfl),om,(by first|exact hc.skip ((hN.IQ q oz).1.2.2.1 (by assumption))|exact hc.join hv.1 (hv.done oz)),rfl⟩)))
 exact gr 11 (h:=⟨ca,cc,c,wd,rfl,H9.iz 0,(by have h9:=hc;rw [show q=st.length by omega] at h9;exact h9)⟩)
theorem HC (eU:aO) (st:List ay) (eT:Nat) (s0:Int) (f0:Int) (aI:Int) (a:Nat) (bI:Int) (b:Nat) (w:World) (eH:cd aP w eU st eT) (uB:aI=((a:Nat):Int)) (YO:bI=((b:Nat):Int)) (hN:oU st s0 f0):
 Calls Tryz.prog 164 #[.agg #[aG eU st eT,ak s0,ak f0],ak aI,ak bI] w (bj fun v w'=>v= .bool (Dt st a b)∧aE w [] w' []):=by
 subst uB
 subst YO
 have hl:=hN.len
 have jQ:=eH.le
 refine cL Tryz.func164 (h:=fun H0=>ae 2 (h:=gI H0 (k:=fun w1 H1=>aL 11 (fun fg=>?_) fun fg=>?_)))
 refine bE 6 (h:=?_)
 obtain rfl:a=b:=by omega
 exact ⟨(by rw [NC]),H1.ag⟩
 refine bZ 8 13 (fun Yr=>?_) fun Yr=>?_
 exact bE 12 (h:=⟨(by rw [Gz oz oz]),H1.ag⟩)
 refine aL 5 (fun c29=>?_) fun c29=>?_
 exact bE 6 (h:=⟨(by rw [Gz oz oz]),H1.ag⟩)
 refine cY 9 [7,6,3,1,2] (fun B R L m e v=>∃k,e=(7,bJ k)::B∧aA w L v (R)∧(k≤st.length)∧(nN st k a b)∧m=st.length-k) (i:=⟨0,rfl,H1,om,(by intro q hq;omega),rfl⟩) (h:=?_)
 rintro m1 Γ1 w2 ⟨k,rfl,H2,hk,hs,rfl⟩
 refine ae 5 (h:=aH (H2.b 0) (k:=aL 4 (fun ju=>?_) fun ju=>?_))
 refine eI 5 H2 (h:=fun w3 H3=>cP 1 1 (H3.b 0) (D:=fun _ hC=>aH hC) (h:=bY 1 3 (eH.at H3) (D:=fun _ hC=>fI k hC) (h:=bY 0 4 (eH.at H3) (D:=fun _ hC=>iL hC) (h:=?_))))
 refine WX 0 5 (eH.at H3) ⟨_,_,_,rfl,rfl,rfl,rfl,rfl,rfl⟩ (fun _ hC=>mO k aq (T:=aP) (us:=[_,_,_,_]) rfl rfl rfl Tryz.underlying87 rfl Hc rfl hC oz rfl ⟨rfl,rfl⟩) (cP 2 9 (H3.b 0) (D:=fun _ hC=>aH hC) (h:=bY 1 11 (eH.at H3) (D:=fun _ hC=>fI k hC) (h:=bY 0 12 (eH.at H3) (D:=fun _ hC=>iL hC) (h:=?_))))
 refine WX 0 13 (eH.at H3) ⟨_,_,_,rfl,rfl,rfl,rfl,rfl,rfl⟩ (fun _ hC=>mO k aq (T:=aP) (us:=[_,_,_,_]) rfl rfl rfl Tryz.underlying87 rfl Hc rfl hC oz rfl ⟨rfl,rfl⟩) (c7 1 7 (D:=aM (c:=ke ((st.getD k aq).set) a w3 oz) (k:=?_)))
 rintro _ w4 ⟨rfl,u2⟩
 have H4:=H3.call u2
 refine ⟨⟨trivial,(eH.at H4),(eH.at H4),(eH.at H4),trivial,(H4.b 0),trivial,trivial⟩,?_⟩
 refine c7 0 15 (D:=aM (c:=ke ((st.getD k aq).set) b w4 oz) (k:=?_))
 rintro _ w5 ⟨rfl,u3⟩
 have H5:=H4.call u3
 refine ⟨trivial,?_⟩
 refine mN 0 16 ⟨_,_,_,rfl,rfl,rfl,rfl,rfl,rfl⟩ (fun _=>pH Tryz.underlying4 rfl rfl ⟨rfl,rfl⟩) (aL 2 (fun Ak=>?_) fun Ak=>?_)
 exact bE 6 (h:=⟨(by rw [Vj (k:=k) oz oz (by simpa using Ak)]),H5.ag⟩)
 exact ae 5 (h:=aX (k:=b6 2 (h:=by exact ⟨k+1,rfl,H5,om,(by exact hs.step (by simpa using Ak)),rfl⟩)))
 exact bE 8 (h:=⟨(by rw [R8 oz oz hs oz]),H2.ag⟩)
theorem B5 (eU:aO) (st:List ay) (eT:Nat) (s0:Int) (f0:Int) (w:World) (eH:cd aP w eU st eT) (hN:oU st s0 f0):
 Calls Tryz.prog 120 #[.agg #[aG eU st eT,ak s0,ak f0]] w (bj fun v w'=>∃a2 c2,∃cls:List Int,∃wd,v= .tuple #[aG a2 cls c2,ak wd]∧aE w [] w' [cg (aw .i64) 3 a2 cls c2]∧(Au st cls wd)):=by
 have jQ:=eH.le
 refine cL Tryz.func120 (h:=fun H0=>ae 2 (h:=gI H0 (k:=fun w1 H1=>?_)))
 have H2:=H1.nr (aw .i64) 3
 have H3:=H2.nr (aw .i64) 3
 have H4:=H3.ps [1,2,0]
 refine cY 21 [6,5,4,3,2,1] (fun B R L m e v=>∃k,∃f:List Int,∃fa fc,∃hs:List Int,∃ha hc,e=(6,bJ k)::(5,aG ha hs hc)::(4,aG fa f fc)::B∧aA w L v ([cg (aw .i64) 3 fa f fc]::[cg (aw .i64) 3 ha hs hc]::R)∧(k≤259)∧(Lw st f hs k)∧(hs.length≤k)∧m=259-k) (i:=⟨0,([]:List Int),none,0,([]:List Int),none,0,rfl,H4,om,(by exact Lw.start st),(by simp),rfl⟩) (h:=?_)
 rintro m1 Γ1 w2 ⟨k,f,fa,fc,hs,ha,hc,rfl,H5,hk,hF,hhl,rfl⟩
 have zA:=hF.len
 refine aL 7 (fun Zh=>?_) fun Zh=>?_
 refine mK 10 [6,5,4,3,2,1] 0 H5 (fun B R L e v=>∃at_,e=(7,ak at_)::B∧aA w L v (R)∧((at_=(k:Int)∧∀x,x∈hs→¬rP st st.length x.toNat k)∨(at_≠(k:Int)∧at_∈hs∧rP st st.length at_.toNat k))) ?_ ?_
 refine cY 6 [8,7,6,5,4,3,2,1] (fun B R L m e v=>∃j,e=(8,bJ j)::(7,bJ k)::B∧aA w L v (R)∧(j≤hs.length)∧(Sq st hs k j)∧m=hs.length-j) (i:=⟨0,rfl,H5,om,(by intro q hq;omega),rfl⟩) (h:=?_)
 rintro m2 Γ2 w3 ⟨j,rfl,H6,hj,hL,rfl⟩
 refine aL 9 (fun zD=>?_) fun zD=>?_
 have X5:=hF.head _ (au (d:=0) (show j<hs.length by omega))
 refine eI 5 H6 (h:=fun w4 H7=>cP 0 0 (H7.b 2) (D:=fun _ hC=>b8 hC) (h:=bY 2 3 (H7.rt 1) (D:=fun _ hC=>bU j hC) (h:=bY 0 4 (H7.rt 1) (D:=fun _ hC=>cn hC) (h:=c7 1 6 (D:=aM (c:=HC eU st eT _ _ _ ((hs.getD j 0).toNat) _ k w4 (eH.at H7) oz oz hN) (k:=?_))))))
 rintro _ w5 ⟨rfl,u2⟩
 have H8:=H7.call u2
 refine ⟨trivial,?_⟩
 refine cS 2 (fun DJ=>?_) fun DJ=>?_
 exact ae 4 (h:=bU j (H8.rt 1) (k:=ae 0 (h:=cn (H8.rt 1) (k:=cy 4 (h:=by exact ⟨hs.getD j 0,rfl,H8,(by first|exact .inl ⟨rfl,hL.all oz⟩|exact .inr ⟨by omega,au oz,zd.1 DJ⟩)⟩)))))
 exact ae 5 (h:=aX (k:=b6 2 (h:=by exact ⟨j+1,rfl,H8,om,(by intro q hq;exact (Nat.lt_or_ge q j).elim (hL q) (fun h9=>by (obtain rfl:q=j:=by omega);exact fun h8=>DJ (zd.2 h8))),rfl⟩)))
 exact cy 1 (h:=by exact ⟨((k:Nat):Int),rfl,H6,(by first|exact .inl ⟨rfl,hL.all oz⟩|exact .inr ⟨by omega,au oz,zd.1 DJ⟩)⟩)
 rintro Γ3 w6 ⟨at_,rfl,H9,wN⟩
 refine aL 8 (fun Li=>?_) fun Li=>?_
 have V9:=(wN.resolve_right (fun h9=>h9.1 Li)).2
 refine ae 3 (h:=db (aw .i64) [((k:Nat):Int)] H9 (k:=fun w7 bO=>ae 0 (h:=fT bO 1 (bO.rt 3) (hb:=b9) (gk:=b9) (k:=fun a1 c1 w8 Sv=>?_))))
 have bR:=(Sv.drop 3).no
 have iP:at_=(k:Int)∨(at_∈hs∧rP st st.length at_.toNat k):=wN.elim (fun h9=> .inl h9.1) (fun h9=> .inr h9.2)
 refine ae 6 (h:=db (aw .i64) [at_] bR (k:=fun w9 cm=>ae 0 (h:=fT cm 0 (cm.rt 4) (hb:=b9) (gk:=b9) (k:=fun a2 c2 gK St=>?_))))
 have cW:=(St.drop 4).no
 exact ae 6 (h:=aX (k:=b6 2 (h:=by exact ⟨k+1,f++[at_],a2,c2,hs++[((k:Nat):Int)],a1,c1,rfl,(cW.re rfl),om,(by first|(rw [Li];exact hF.new V9)|exact hF.vk (iP.resolve_left Li).1 (iP.resolve_left Li).2),uY,rfl⟩)))
 have iP:at_=(k:Int)∨(at_∈hs∧rP st st.length at_.toNat k):=wN.elim (fun h9=> .inl h9.1) (fun h9=> .inr h9.2)
 refine ae 5 (h:=db (aw .i64) [at_] H9 (k:=fun iu cH=>ae 0 (h:=fT cH 0 (cH.rt 3) (hb:=b9) (gk:=b9) (k:=fun a3 c3 iW ZW=>?_))))
 have cI:=(ZW.drop 3).no
 exact ae 6 (h:=aX (k:=b6 2 (h:=by exact ⟨k+1,f++[at_],a3,c3,hs,ha,hc,rfl,(cI.re rfl),om,(by first|(rw [Li];exact hF.new V9)|exact hF.vk (iP.resolve_left Li).1 (iP.resolve_left Li).2),uY,rfl⟩)))
 refine ae 5 (h:=aM (c:=rk fa f fc w2 (H5.rt 0) hF.first oz) (k:=?_))
 rintro _ iV ⟨bN,cv,rfl,u9⟩
 have cT:Uu4:=(H5.im u9).re rfl
 exact gr 7 (h:=⟨bN,cv,bp f,(((dd f).length:Nat):Int),rfl,cT.iz 3,(by have h9:=hF;rw [show k=259 by omega] at h9;exact h9.cls)⟩)
open Go Go.Sx Go.RowKit
theorem Ia (eU:aO) (st:List ay) (eT:Nat) (s0 f0:Int) (FQ:aO) (fr:List Int) (FP YI:Nat) (bI:Int) (b:Nat) (w:World) (eH:bH aP w (.slice eU st.length eT) st) (GO:bH (aw .i64) w (.slice FQ YI FP) fr) (YO:bI=((b:Nat):Int)) (hN:oU st s0 f0) (zA:fr.length≤5000) (wM:∀t,t∈fr→0≤t∧t<(st.length:Int)) (hb:b<256):
    Calls Tryz.prog 181 #[.agg #[.slice eU st.length eT,.int .i64 s0,.int .i64 f0],.slice FQ YI FP,.int .u8 bI] w (bj fun v w'=>∃a2:aO,∃c2:Nat,∃o2:List Bool,v= .slice a2 (cF o2).length c2∧aE w [] w' [aj (aw .i64) (.slice a2 (cF o2).length c2) 3 (cF o2)]∧(oT st (ef st fr b) 0 o2)):=by
  subst YO
  obtain rfl:YI=fr.length:=GO.len
  exact Ms eU st eT s0 f0 FQ fr FP b w eH GO hN zA wM hb
theorem vl (eU:aO) (st:List ay) (eT:Nat) (s0 f0:Int) (FQ:aO) (fr:List Int) (FP YI:Nat) (sym:Int) (w:World) (eH:bH aP w (.slice eU st.length eT) st) (GO:bH (aw .i64) w (.slice FQ YI FP) fr) (hN:oU st s0 f0) (zA:fr.length≤5000) (wM:∀t,t∈fr→0≤t∧t<(st.length:Int)):
    Calls Tryz.prog 155 #[.agg #[.slice eU st.length eT,.int .i64 s0,.int .i64 f0],.slice FQ YI FP,.int .i64 sym] w (bj fun v w'=>∃a2:aO,∃c2:Nat,∃o2:List Bool,v= .slice a2 (cF o2).length c2∧aE w [] w' [aj (aw .i64) (.slice a2 (cF o2).length c2) 3 (cF o2)]∧(oT st fr sym o2)):=by
  obtain rfl:YI=fr.length:=GO.len
  exact Ic eU st eT s0 f0 FQ fr FP sym w eH GO hN zA wM
theorem OO (toa:aO) (to:List Int) (toc:Nat) (ton:Nat) (w:World) (rto:bH (aw .i64) w (.slice toa ton toc) to) (hl:to.length≤1000000):
 Calls Tryz.prog 178 #[.slice toa ton toc] w (bj fun v w'=>v= .string (ME to)∧aE w [] w' []):=by
 obtain rfl:ton=to.length:=rto.len
 have agb:=rto.le
 refine cL Tryz.func178 (h:=fun H0=>ae 9 (h:=GP (k:=?_)))
 refine aR 0 rfl (S8 (2*to.length) (T:=(aw .u8)) rfl Tryz.underlying232 sz5 rfl rfl rfl oz oz fun w1 u1=>?_)
 have H1:=H0.nw u1
 refine cY 12 [12,3,11,10,2] (fun B R L m e v=>∃k,∃q:List Int,∃qa qc,e=(12,bJ k)::(3,.slice qa q.length qc)::B∧aA w L v ([aj (aw .u8) (.slice qa q.length qc) 5 q]::R)∧(k≤to.length)∧(q=vY (to.take k))∧(q.length=2*k)∧m=to.length-k) (i:=⟨0,([]:List Int),(some ⟨w.heap.size,0,none⟩),2*to.length,rfl,H1,om,rfl,rfl,rfl⟩) (h:=?_)
 rintro m1 Γ1 w2 ⟨k,q,qa,qc,rfl,H2,hk,hq,IC,rfl⟩
 refine aL 6 (fun C9=>?_) fun C9=>?_
 refine ae 6 (h:=bU k (rto.at H2) (k:=ae 0 (h:=cn (rto.at H2) (k:=?_))))
 refine aR 6 rfl (Re rfl rfl oz ?_)
 refine aR 0 rfl (I3 Tryz.underlying3 Tryz.underlying5 rfl ?_)
 refine aR 1 rfl (I3 Tryz.underlying3 Tryz.underlying5 rfl (ae 0 (h:=db (aw .u8) [IntKind.u8.wrap ((to.getD k 0).fdiv (2^(min (8:Int).toNat 64))),IntKind.u8.wrap (to.getD k 0)] H2 (k:=fun w3 H3=>ae 0 (h:=fT H3 0 (H3.rt 1) (hb:=(by simp only [List.length_cons,List.length_nil];omega)) (gk:=(by simp only [List.length_cons,List.length_nil];omega)) (k:=fun a1 c1 w4 GK=>?_))))))
 have H4:=(GK.drop 1).no
 exact ae 5 (h:=aX (k:=b6 2 (h:=by exact ⟨k+1,q++[IntKind.u8.wrap ((to.getD k 0).fdiv (2^(min (8:Int).toNat 64))),IntKind.u8.wrap (to.getD k 0)],a1,c1,rfl,(H4.re rfl),om,(by rw [hq];exact MF oz),(by rw [List.length_append,IC];simp only [List.length_cons,List.length_nil];omega),rfl⟩)))
 exact aR 5 rfl (I4 Tryz.underlying232 Tryz.underlying5 Tryz.underlying9 rfl (H2.rt 0) (bE 4 (h:=⟨(by rw [hq,List.take_of_length_le oz];rfl),H2.ag⟩)))
theorem xr (g:Nat) (eU:aO) (st:List ay) (eT:Nat) (s0:Int) (f0:Int) (aK:Int) (zr:aO) (ps:List (LR Int)) (zp:Nat) (mg:Nat) (mm:List (ByteArray×Int)) (xa:aO) (xc:Nat) (x:List Bool) (os:List (List Bool)) (w:World) (hp:Hp w [bm g #[aG eU st eT,ak s0,ak f0,ak aK,aG zr ps zp,.map (some mg)] 200,cg aW 25 zr ps zp,aC (bh (aw .i64) 3).row ps,eD (fun a:ByteArray=> .string a) (fun a:Int=>ak a) mg mm,cg (aw .i64) 3 xa (cF x) xc]) (V2:ps.map LR.xs=os.map cF) (hK:uR st.length os mm) (hx:x.length=st.length) (GR:os.length≤1000000):
 Calls Tryz.prog 154 #[.pointer (some ⟨g,0,none⟩),aG xa (cF x) xc] w (bj fun v w'=>∃SE:List (LR Int),∃Pv Pu,∃mm2:List (ByteArray×Int),v=bJ (ix x (dM os x))∧aE w [bm g #[aG eU st eT,ak s0,ak f0,ak aK,aG zr ps zp,.map (some mg)] 200,cg aW 25 zr ps zp,aC (bh (aw .i64) 3).row ps,eD (fun a:ByteArray=> .string a) (fun a:Int=>ak a) mg mm,cg (aw .i64) 3 xa (cF x) xc] w' [bm g #[aG eU st eT,ak s0,ak f0,ak aK,aG Pv SE Pu,.map (some mg)] 200,cg aW 25 Pv SE Pu,aC (bh (aw .i64) 3).row SE,eD (fun a:ByteArray=> .string a) (fun a:Int=>ak a) mg mm2]∧(SE.map LR.xs=(dM os x).map cF)∧(uR st.length (dM os x) mm2)):=by
 have MT:ps.length=os.length:=(by have h9:=congrArg List.length V2;simpa using h9)
 have T5:=lG x
 have hKl:=hK.1
 refine uZ hp Tryz.func154 (h:=fun H0=>ae 8 (h:=aM (c:=OO xa (cF x) xc ((cF x).length) w (H0.rt 4) oz) (k:=?_)))
 rintro _ w1 ⟨rfl,u1⟩
 have H1:=H0.call u1
 refine ae 9 (h:=aH (H1.b 0) (k:=?_))
 refine aR 1 rfl (CV (ek:=(fun a:ByteArray=> .string a)) (fW:=(fun a:Int=>ak a)) (ME (cF x)) 0 abM Tryz.underlying197 zM rfl rfl (H1.po 3 rfl) (cS 12 (fun qL=>?_) fun qL=>?_))
 obtain ⟨ag1,acp⟩:=hK.some hx qL
 refine bE 7 (h:=?_)
 have e1:dM os x=os:=if_pos ag1
 rw [e1]
 exact ⟨ps,zr,zp,_,(by first|(rw [←acp];rfl)|(exact congrArg _ acp)),(H1.se [0,1,2,3]),V2,hK⟩
 obtain ⟨acq,ag2⟩:=hK.none hx qL
 refine eI 3 H1 (h:=fun w2 H2=>cP 3 3 (H2.b 0) (D:=fun _ hC=>aH hC) (h:=cP 4 8 (H2.b 0) (D:=fun _ hC=>aH hC) (h:=?_)))
 refine vQ 1 10 ⟨_,_,_,rfl,rfl,rfl,rfl,rfl,rfl⟩ (iT (ek:=(fun a:ByteArray=> .string a)) (fW:=(fun a:Int=>ak a)) (ME (cF x)) ((ps.length:Nat):Int) abM Tryz.underlying197 rfl rfl rfl (H2.dH 3) fun w3 u2=>?_)
 have H3:=H2.un 3 u2
 refine ⟨trivial,?_⟩
 refine ae 8 (h:=aH (H3.b 0) (k:=ae 1 (h:=db aW ([⟨xa,(cF x).length,xc,cF x⟩]:List (LR Int)) H3 (k:=fun w4 H4=>ae 0 (h:=fT H4 1 (H4.rt 5) (hb:=b9) (gk:=b9) (k:=fun a1 c1 w5 Vv=>?_))))))
 have H5:=(Vv.drop 5).no
 have H6:Uu4x2:=(aA.kC (f:=(bh (aw .i64) 3).row) (⟨xa,(cF x).length,xc,cF x⟩:(LR Int)) H5 2 4 rfl rfl rfl).re rfl
 refine aU 2 (h:=jA H6 0 (k:=fun w6 H7=>cG 2 [4,0] (h:=ae 5 (h:=aH (H7.b 0) (k:=ae 1 (h:=jK (h1:=b9) (h2:=b9) (k:=bE 4 (h:=?_))))))))
 have e1:dM os x=os++[x]:=if_neg acq
 have e2:ix x (dM os x)=os.length:=by rw [KI,if_neg acq]
 rw [e2,e1]
 exact ⟨ps++([⟨xa,(cF x).length,xc,cF x⟩]:List (LR Int)),a1,c1,_,VF,(H7.se [0,1,2,3]),(by rw [List.map_append,List.map_append,V2];rfl),(by rw [MT];exact ag2)⟩
theorem Ti (g:Nat) (eU:aO) (st:List ay) (eT:Nat) (s0:Int) (f0:Int) (aK:Int) (zr:aO) (zp:Nat) (mg:Nat) (psn:Nat) (Aw:aO) (xs:List Int) (Av:Nat) (BM:Nat) (sym:Int) (x:List Bool) (w:World) (eH:cd aP w eU st eT) (tI:bH (aw .i64) w (.slice Aw BM Av) xs) (bg:w.heap[g]?=some (.cells #[aG eU st eT,ak s0,ak f0,ak aK,.slice zr psn zp,.map (some mg)] 200 (0,0))) (hN:oU st s0 f0) (hx:x.length=st.length) (MN:xs=cF x) (KL:0≤sym):
 Calls Tryz.prog 156 #[.pointer (some ⟨g,0,none⟩),.slice Aw BM Av,ak sym] w (bj fun v w'=>∃a2,∃c2:Nat,∃o2:List Bool,v=aG a2 (cF o2) c2∧aE w [] w' [cg (aw .i64) 3 a2 (cF o2) c2]∧(o2=jF st x sym)∧(o2.length=st.length)):=by
 obtain rfl:BM=xs.length:=tI.len
 have hl:=hN.len
 have T5:xs.length≤600:=(by rw [MN];have h9:=lG x;omega)
 have jQ:=eH.le
 have Cz:=tI.le
 refine cL Tryz.func156 (h:=fun H0=>aL 12 (fun RL=>?_) fun RL=>?_)
 refine ae 5 (h:=b8 (H0.oG.obj bg (by simp)) (k:=ae 2 (h:=kT (k:=ae 0 (h:=aM (c:=Ia eU st eT _ _ Aw xs Av xs.length _ sym.toNat w (eH.at H0) (tI.at H0) oz hN oz (fun t ht=>by rw [MN] at ht;have h9:=lF ht;rw [hx] at h9;exact h9) oz) (k:=?_))))))
 rintro _ w1 ⟨bN,cv,kM,rfl,u1,sZ⟩
 have H1:=H0.ns u1
 exact bE 4 (h:=⟨bN,cv,kM,rfl,H1.iz 0,(xk hN RL (by rw [←MN];exact sZ) hx).symm,sZ.len⟩)
 refine ae 7 (h:=b8 (H0.oG.obj bg (by simp)) (k:=ae 2 (h:=aM (c:=vl eU st eT _ _ Aw xs Av xs.length _ w (eH.at H0) (tI.at H0) hN oz (fun t ht=>by rw [MN] at ht;have h9:=lF ht;rw [hx] at h9;exact h9)) (k:=?_))))
 rintro _ w2 ⟨gW,jB,kL,rfl,u2,M3⟩
 have H2:=H0.ns u2
 exact bE 4 (h:=⟨gW,jB,kL,rfl,H2.iz 0,(tO hN RL (by rw [←MN];exact M3)).symm,M3.len⟩)
theorem OJ (g:Nat) (eU:aO) (st:List ay) (eT:Nat) (s0:Int) (f0:Int) (aK:Int) (zr:aO) (ps:List (LR Int)) (zp:Nat) (mg:Nat) (mm:List (ByteArray×Int)) (fsa:aO) (fs:List Int) (fsc:Nat) (w:World) (hp:Hp w [bm g #[.slice eU st.length eT,ak s0,ak f0,ak aK,.slice zr ps.length zp,.map (some mg)] 200,aj aW (.slice zr ps.length zp) 25 ps,aC (bh (aw .i64) 3).row ps,eD (fun a:ByteArray=> .string a) (fun a:Int=>ak a) mg mm,aj (aw .i64) (.slice fsa fs.length fsc) 3 fs]) (eH:bH aP w (.slice eU st.length eT) st) (hN:oU st s0 f0) (V2:ps=[]) (hmm:mm=[]) (Ud:aK≤1024) (yB:fs.length≤259∧∀t,t∈fs→0≤t) (dJ:fb (.slice eU st.length eT) [bm g #[.slice eU st.length eT,ak s0,ak f0,ak aK,.slice zr ps.length zp,.map (some mg)] 200,aj aW (.slice zr ps.length zp) 25 ps,aC (bh (aw .i64) 3).row ps,eD (fun a:ByteArray=> .string a) (fun a:Int=>ak a) mg mm,aj (aw .i64) (.slice fsa fs.length fsc) 3 fs]):
 Calls Tryz.prog 112 #[.pointer (some ⟨g,0,none⟩),.slice fsa fs.length fsc] w (bj fun v w'=>∃a2 c2,∃SF:List Int,∃os2:List (List Bool),∃SE:List (LR Int),∃Pv Pu,∃mm2:List (ByteArray×Int),v= .slice a2 SF.length c2∧aE w [bm g #[.slice eU st.length eT,ak s0,ak f0,ak aK,.slice zr ps.length zp,.map (some mg)] 200,aj aW (.slice zr ps.length zp) 25 ps,aC (bh (aw .i64) 3).row ps,eD (fun a:ByteArray=> .string a) (fun a:Int=>ak a) mg mm,aj (aw .i64) (.slice fsa fs.length fsc) 3 fs] w' [bm g #[.slice eU st.length eT,ak s0,ak f0,ak aK,.slice Pv SE.length Pu,.map (some mg)] 200,aj aW (.slice Pv SE.length Pu) 25 SE,aC (bh (aw .i64) 3).row SE,eD (fun a:ByteArray=> .string a) (fun a:Int=>ak a) mg mm2,aj (aw .i64) (.slice a2 SF.length c2) 3 SF]∧(SE.map LR.xs=os2.map cF)∧(uR st.length os2 mm2)∧(An (jF st) [] fs (jZ st [s0] 0) aK (os2,SF))∧(os2.length≤2000)):=by
 have hl:=hN.len
 have hs:=hN.s
 have jQ:=eH.le
 refine uZ hp Tryz.func112 (h:=fun H0=>eI 11 H0 (h:=fun w1 H1=>cP 4 4 (H1.b 0) (D:=fun _ hC=>b8 hC) (h:=cP 4 9 (H1.b 0) (D:=fun _ hC=>aH hC) (h:=c7 0 10 (D:=db (aw .i64) [s0] H1 (k:=fun w2 H2=>?_))))))
 refine ⟨⟨(H2.b 0),trivial,trivial,trivial,trivial,trivial⟩,?_⟩
 refine c7 0 11 (D:=aM (c:=vl eU st eT _ _ _ [s0] _ ([s0].length) _ w2 (eH.keep H2.keep dJ) (H2.rt 5) hN (by simp) (by intro t ht;simp only [List.mem_singleton] at ht;subst ht;exact hs)) (k:=?_))
 rintro _ w3 ⟨bN,cv,kM,rfl,u2,sZ⟩
 have H3:=H2.ns u2
 refine ⟨⟨trivial,trivial⟩,?_⟩
 have H4:aA _ _ _ [[_,_,_,_],[_],[_],[_]]:=aA.of (aE.j7 H3 (l:=[0,1,2,3,4,5,6]) rfl rfl) rfl
 refine c7 0 12 (D:=aM (c:=xr _ eU st eT s0 f0 aK zr ps zp mg mm bN _ kM ([]:List (List Bool)) w3 (H4.Bl 0 3 rfl rfl rfl) (by rw [V2];rfl) (by rw [hmm];exact uR.start hN.len) sZ.len (by simp)) (k:=?_))
 rintro _ w4 ⟨bQ,ud,ub,Kx,rfl,u3,sW,IJ⟩
 have H5:aA _ _ _ [[_,_,_,_],[_],[_],[]]:=(H4.gh (A':=[bm g #[.slice eU st.length eT,ak s0,ak f0,ak aK,.slice ud bQ.length ub,.map (some mg)] 200,aj aW (.slice ud bQ.length ub) 25 bQ,aC (bh (aw .i64) 3).row bQ,eD (fun a:ByteArray=> .string a) (fun a:Int=>ak a) mg Kx]) (B':=[]) (C:=[]) 0 3 rfl rfl rfl u3).re rfl
 refine ⟨trivial,?_⟩
 have H6:Uu6x1:=H5.re rfl
 have H7:=H6.nr (aw .i64) 3
 have H8:=H7.ps [0,1,2,3,6,4,5]
 refine cY 9 [6,5,4,0,1] (fun B R L m e v=>∃at9,∃os:List (List Bool),∃nx:List Int,∃HX HW,∃pq:List (LR Int),∃Py Px,∃Z8:List (ByteArray×Int),e=(6,bJ at9)::(5,.slice HX nx.length HW)::B∧aA w L v ([bm g #[.slice eU st.length eT,ak s0,ak f0,ak aK,.slice Py pq.length Px,.map (some mg)] 200]::[aj aW (.slice Py pq.length Px) 25 pq]::[aC (bh (aw .i64) 3).row pq]::[eD (fun a:ByteArray=> .string a) (fun a:Int=>ak a) mg Z8]::[aj (aw .i64) (.slice HX nx.length HW) 3 nx]::R)∧(ew (jF st) [] fs (jZ st [s0] 0) at9=(os,nx))∧(JN st fs (jZ st [s0] 0) aK at9)∧(at9≤1024)∧(os.length≤1300)∧(nx.length=at9*fs.length)∧(pq.map LR.xs=os.map cF)∧(uR st.length os Z8)∧m=(aK+1-(at9:Int)).toNat) (i:=⟨0,[kM],([]:List Int),none,0,bQ,ud,ub,Kx,rfl,H8,(by show ([(jZ st [s0] 0)],([]:List Int))=_;rw [y2 hN sZ (by intro t ht;simp only [List.mem_singleton] at ht;omega)]),(by intro q hq;omega),oz,(by simp),(by simp),(by rw [←GA kM];exact sW),(by rw [←GA kM];exact IJ),rfl⟩) (h:=?_)
 rintro m1 Γ1 w5 ⟨at9,os,nx,HX,HW,pq,Py,Px,Z8,rfl,H9,NQ,Un,iP,NV,MV,sV,Up,rfl⟩
 have agH:pq.length=os.length:=by have h9:=congrArg List.length sV;simpa using h9
 have hnb:=Kw iP yB.1
 refine eI 2 H9 (h:=fun w6 bO=>cP 4 4 (bO.b 0) (D:=fun _ hC=>aH hC) (h:=Ps 3 29 (fun g50=>?_) fun g50=>?_))
 refine cP 3 11 (bO.b 0) (D:=fun _ hC=>aH hC) (h:=cP 4 16 (bO.b 0) (D:=fun _ hC=>aH hC) (h:=aL 4 (fun RJ=>?_) fun RJ=>?_))
 refine cY 12 [45,5,44,43,39,38,37,36,35,34,33,32,31,30,6,4,0,1] (fun B R L m e v=>∃c9,∃oF:List (List Bool),∃vW:List Int,∃Cf Ce,∃pr:List (LR Int),∃Mj Mi,∃mpr:List (ByteArray×Int),e=(45,bJ c9)::(5,.slice Cf vW.length Ce)::B∧aA w L v ([bm g #[.slice eU st.length eT,ak s0,ak f0,ak aK,.slice Mj pr.length Mi,.map (some mg)] 200]::[aj aW (.slice Mj pr.length Mi) 25 pr]::[aC (bh (aw .i64) 3).row pr]::[eD (fun a:ByteArray=> .string a) (fun a:Int=>ak a) mg mpr]::[aj (aw .i64) (.slice Cf vW.length Ce) 3 vW]::R)∧(c9≤fs.length)∧(lz (jF st) [] at9 (fs.take c9) (os,nx)=(oF,vW))∧(pr.map LR.xs=oF.map cF)∧(uR st.length oF mpr)∧m=fs.length-c9) (i:=⟨0,os,nx,HX,HW,pq,Py,Px,Z8,rfl,bO,oz,rfl,(by exact sV),(by exact Up),rfl⟩) (h:=?_)
 rintro m2 Γ2 w7 ⟨c9,oF,vW,Cf,Ce,pr,Mj,Mi,mpr,rfl,bR,hc9,V0,nh,Yj,rfl⟩
 have XV:pr.length=oF.length:=by have h9:=congrArg List.length nh;simpa using h9
 have hrf:=Ep Up.2.1 V0 hc9
 refine aL 6 (fun Aj=>?_) fun Aj=>?_
 refine ae 6 (h:=bU c9 (bR.rt 5) (k:=ae 0 (h:=cn (bR.rt 5) (k:=ae 10 (h:=aH (bR.b 0) (k:=ae 1 (h:=bU at9 (bR.rt 1) (k:=ae 0 (h:=cn (bR.rt 1) (k:=ae 1 (h:=aM (c:=Ti _ eU st eT s0 f0 aK Mj Mi mg pr.length _ ((pr.getD at9 ai).xs) _ ((pr.getD at9 ai).n) _ (oF.getD at9 []) w7 (eH.keep bR.keep dJ) (show bH (aw .i64) w7 (.slice ((pr.getD at9 ai).a) ((pr.getD at9 ai).n) ((pr.getD at9 ai).c)) ((pr.getD at9 ai).xs) from (ga.own (bR.cB 2 rfl)).get ai at9 oz) (bR.b 0) hN (Yj.2.2.1 _ (au oz)) (xV nh oz) (yB.2 _ (au oz))) (k:=?_))))))))))))
 rintro _ w8 ⟨gW,jB,kL,rfl,u4,agp,Fx⟩
 have cm:Uu8:=(bR.im u4).re rfl
 have cW:aA _ _ _ [[_,_,_,_],[_],[_],[_],[_]]:=aA.of (aE.j7 cm (l:=[0,1,2,3,4,5,6,7]) rfl rfl) rfl
 refine ae 0 (h:=aM (c:=xr _ eU st eT s0 f0 aK Mj pr Mi mg mpr gW _ kL oF w8 (cW.Bl 0 4 rfl rfl rfl) nh Yj Fx oz) (k:=?_))
 rintro _ w9 ⟨EJ,HG,HF,VM,rfl,u5,ab5,ahn⟩
 have cH:aA _ _ _ [[_,_,_,_],[_],[_],[_],[]]:=(cW.gh (A':=[bm g #[.slice eU st.length eT,ak s0,ak f0,ak aK,.slice HG EJ.length HF,.map (some mg)] 200,aj aW (.slice HG EJ.length HF) 25 EJ,aC (bh (aw .i64) 3).row EJ,eD (fun a:ByteArray=> .string a) (fun a:Int=>ak a) mg VM]) (B':=[]) (C:=[]) 0 4 rfl rfl rfl u5).re rfl
 refine ae 0 (h:=db (aw .i64) [((ix kL (dM oF kL):Nat):Int)] cH (k:=fun gK cI=>ae 0 (h:=fT cI 1 (cI.rt 5) (hb:=b9) (gk:=b9) (k:=fun a1 c1 iu Ss=>?_))))
 have cT:=(Ss.drop 5).no
 refine cG 4 [5,45,44,43,39,38,37,36,35,34,33,32,31,30,6,4,0,1] (h:=ae 1 (h:=aX (k:=?_)))
 have dj:Uu7x2:=cT.re rfl
 exact b6 2 (h:=by exact ⟨c9+1,dM oF kL,vW++[((ix kL (dM oF kL):Nat):Int)],a1,c1,EJ,HG,HF,VM,rfl,(dj.re rfl),oz,(by exact xK V0 oz agp),(by exact ab5),(by exact ahn),rfl⟩)
 exact ae 5 (h:=aX (k:=b6 2 (h:=by exact ⟨at9+1,oF,vW,Cf,Ce,pr,Mj,Mi,mpr,rfl,bR,(by exact Eb NQ (by rw [show fs.length=c9 by omega];exact V0)),(by exact Un.next NQ oz oz),oz,oz,(by rw [Nat.succ_mul];omega),(by exact nh),(by exact Yj),rfl⟩)))
 exact bE 9 (h:=⟨HX,HW,nx,os,pq,Py,Px,Z8,rfl,(bO.se [0,1,2,3,4]),sV,Up,(Un.fin NQ oz),oz⟩)
 exact bE 23 (h:=⟨HX,HW,nx,os,pq,Py,Px,Z8,rfl,(bO.se [0,1,2,3,4]),sV,Up,(Un.fin NQ oz),oz⟩)
theorem Hj (eU:aO) (st:List ay) (eT:Nat) (s0:Int) (f0:Int) (aK:Int) (w:World) (eH:bH aP w (.slice eU st.length eT) st) (rT:bH fh w (.slice (some ⟨0,0,none⟩) rG.length 64) rG) (hN:oU st s0 f0) (Ud:aK≤1024):
 Calls Tryz.prog 84 #[.agg #[.slice eU st.length eT,ak s0,ak f0],ak aK] w (bj fun v w'=>∃d:ar,∃er ca,∃cc na,∃nc ba bc,v= .tuple #[.agg #[.slice ca d.cls.length cc,ak d.width,ak d.start,.slice na d.next.length nc,.slice ba d.acc.length bc],ak er]∧aE w [] w' [aj (aw .i64) (.slice ca d.cls.length cc) 3 d.cls,aj (aw .i64) (.slice na d.next.length nc) 3 d.next,aj bu (.slice ba d.acc.length bc) 4 d.acc]∧(oS st s0 f0 aK d er)):=by
 have hl:=hN.len
 have hs:=hN.s
 have hf:=hN.f
 have jQ:=eH.le
 have kH:=rT.le
 refine cL Tryz.func84 (h:=fun H0=>ae 2 (h:=gI H0 (k:=fun w1 H1=>ae 0 (h:=da H1 (k:=fun w2 H2=>ae 5 (h:=b8 (H2.b 0) (k:=ae 0 (h:=aM (c:=Gf eU st eT _ _ w2 (eH.at H2) (rT.at H2) hN) (k:=?_)))))))))
 rintro _ w3 ⟨bN,cv,fE,my,rfl,u3,yC⟩
 have H3:=H2.ns u3
 have hcr:=yC.k8
 have wM:=kf yC
 refine aL 14 (fun Zf=>?_) fun Zf=>?_
 exfalso;omega
 refine ae 4 (h:=b8 (H3.b 0) (k:=?_))
 refine aR 1 rfl (qm (fun a:ByteArray=> .string a) (fun a:Int=>ak a) fun w4 u4=>?_)
 have H4:=H3.nw u4
 refine ae 0 (h:=ck (k:=ae 0 (h:=gI H4 (k:=fun w5 H5=>ae 8 (h:=aM (c:=yK bN fE _ _ w5 (H5.rt 2)) (k:=?_))))))
 rintro _ w6 ⟨gW,jB,rfl,u6⟩
 have H6:=H5.ns u6
 have H7:=H6.nr (aW:Ty (LR Int)) 25
 have H8:=H7.nw (aE.kR (bh (aw .i64) 3).row w6)
 have H9:aA _ _ _ [[_,_,_,_],[_],[_],[_],[_]]:=aA.of (aE.j7 H8 (l:=[4,6,7,3,0,1,2,5]) rfl rfl) rfl
 refine ae 0 (h:=aM (c:=OJ _ eU st eT s0 f0 aK none ([]:List (LR Int)) 0 w3.heap.size ([]:List (ByteArray×Int)) gW (ax fE my) _ w6 (H9.Bl 0 4 rfl rfl rfl) (eH.at H9) hN rfl rfl Ud ⟨by omega,fun t ht=>(wM.2 t ht).1⟩ (fb.two (fb.of (fb.nil _) eH oz H9 0 rfl) (fb.of (fb.nil _) eH oz H9 4 rfl))) (k:=?_))
 rintro _ w7 ⟨kW,oj,PU,lA,bQ,ud,ub,Kx,rfl,u7,sW,IJ,hE1,Fx⟩
 have bO:aA _ _ _ [[_,_,_,_],[_],[_],[_],[_]]:=(H9.gh (A':=[bm w4.heap.size #[.slice eU st.length eT,ak s0,ak f0,ak aK,.slice ud bQ.length ub,.map (some w3.heap.size)] 200,aj aW (.slice ud bQ.length ub) 25 bQ,aC (bh (aw .i64) 3).row bQ,eD (fun a:ByteArray=> .string a) (fun a:Int=>ak a) w3.heap.size Kx]) (B':=[aj (aw .i64) (.slice kW PU.length oj) 3 PU]) (C:=[]) 0 4 rfl rfl rfl u7).re rfl
 have MT:bQ.length=lA.length:=by have h9:=congrArg List.length sW;simpa using h9
 refine ae 9 (h:=aH ((bO.dH 0).bm (List.mem_of_getElem? (i:=0) rfl)) (k:=cG 5 [39,9,8,7,6,5,4,2] (h:=aL 0 (fun Zd=>?_) fun Zd=>?_)))
 refine ae 2 (h:=ck (k:=aU 0 (h:=bC bO 2 (k:=fun w8 bR=>fx 4 (h1:=cK (bR.b 2)) (h2:=cZ) (h:=?_)))))
 have cm:=bR.nr (aw .i64) 3
 have cW:=cm.nr (aw .i64) 3
 have cH:=cW.nr bu 4
 exact ⟨⟨[],0,0,[],[]⟩,5,none,0,none,0,none,0,rfl,(cH.se [8,9,10]),⟨_,_,_,_,yC,hE1,.inr ⟨by omega,rfl,rfl⟩⟩⟩
 refine ae 7 (h:=aH ((bO.dH 0).bm (List.mem_of_getElem? (i:=0) rfl)) (k:=?_))
 refine aR 1 rfl (iE bQ.length false (T:=bu) rfl Tryz.underlying26 Tg rfl rfl rfl rfl oz oz fun w9 u9=>?_)
 have cI:=bO.nw u9
 refine ae 9 (h:=aH ((cI.dH 0).bm (List.mem_of_getElem? (i:=0) rfl)) (k:=?_))
 have cT:=cI.sn
 have dj:=cT.ps [8,0,1,2,3,4,5,6,7]
 refine cY 5 [52,51,50,10,9,7,6,5,4,2] (fun B R L m e v=>∃k,∃u:List Bool,e=(52,bJ k)::B∧aA w L v ([aj bu (.slice (some ⟨w7.heap.size,0,none⟩) ((List.replicate bQ.length false).length) bQ.length) 4 u]::R)∧(k≤lA.length)∧(DD lA f0 u k)∧m=lA.length-k) (i:=⟨0,List.replicate bQ.length false,rfl,dj,oz,(by exact DD.start _ _ MT),rfl⟩) (h:=?_)
 rintro m1 Γ1 gK ⟨k,u,rfl,dY,hk,hA,rfl⟩
 have SK:=hA.len
 refine aL 6 (fun Zc=>?_) fun Zc=>?_
 refine ae 7 (h:=bU k (dY.rt 2) (k:=ae 0 (h:=cn (dY.rt 2) (k:=?_))))
 have V6:(bQ.getD k ai).n=(bQ.getD k ai).xs.length:=(show bH (aw .i64) gK (.slice (bQ.getD k ai).a (bQ.getD k ai).n (bQ.getD k ai).c) (bQ.getD k ai).xs from (ga.own (dY.cB 3 rfl)).get ai k oz).len
 have MV:(bQ.getD k ai).xs.length≤1000000:=by rw [xV sW oz];have h9:=lG (lA.getD k []);have h8:=IJ.2.2.1 _ (au (d:=[]) (show k<lA.length by omega));omega
 refine cY 12 [59,58,57,11,52,51,50,10,9,7,6,5,4,2] (fun B R L m e v=>∃j,∃u2:List Bool,e=(59,bJ j)::B∧aA w L v ([aj bu (.slice (some ⟨w7.heap.size,0,none⟩) ((List.replicate bQ.length false).length) bQ.length) 4 u2]::R)∧(j≤(bQ.getD k ai).xs.length)∧(JO lA f0 u2 k (bQ.getD k ai).xs j)∧m=(bQ.getD k ai).xs.length-j) (i:=⟨0,u,rfl,dY,oz,(by exact hA.go _),rfl⟩) (h:=?_)
 rintro m2 Γ2 iu ⟨j,u2,rfl,eJ,hj,hJ,rfl⟩
 have alB:=hJ.len
 have V6:(bQ.getD k ai).n=(bQ.getD k ai).xs.length:=(show bH (aw .i64) iu (.slice (bQ.getD k ai).a (bQ.getD k ai).n (bQ.getD k ai).c) (bQ.getD k ai).xs from (ga.own (eJ.cB 3 rfl)).get ai k oz).len
 have MV:(bQ.getD k ai).xs.length≤1000000:=by rw [xV sW oz];have h9:=lG (lA.getD k []);have h8:=IJ.2.2.1 _ (au (d:=[]) (show k<lA.length by omega));omega
 refine aL 6 (fun Zb=>?_) fun Zb=>?_
 have V6:(bQ.getD k ai).n=(bQ.getD k ai).xs.length:=(show bH (aw .i64) iu (.slice (bQ.getD k ai).a (bQ.getD k ai).n (bQ.getD k ai).c) (bQ.getD k ai).xs from (ga.own (eJ.cB 3 rfl)).get ai k oz).len
 have MV:(bQ.getD k ai).xs.length≤1000000:=by rw [xV sW oz];have h9:=lG (lA.getD k []);have h8:=IJ.2.2.1 _ (au (d:=[]) (show k<lA.length by omega));omega
 refine ae 6 (h:=bU j (show bH (aw .i64) iu (.slice ((bQ.getD k ai).a) ((bQ.getD k ai).n) ((bQ.getD k ai).c)) ((bQ.getD k ai).xs) from (ga.own (eJ.cB 3 rfl)).get ai k oz) (k:=ae 0 (h:=cn (show bH (aw .i64) iu (.slice ((bQ.getD k ai).a) ((bQ.getD k ai).n) ((bQ.getD k ai).c)) ((bQ.getD k ai).xs) from (ga.own (eJ.cB 3 rfl)).get ai k oz) (k:=ae 8 (h:=bU k (eJ.rt 0) (k:=ae 0 (h:=cn (eJ.rt 0) (k:=ik 1 69 (fun Ym=>?_) fun Ym=>?_))))))))
 refine ae 5 (h:=bU k (eJ.rt 0) (k:=aU 0 (h:=tH true eJ 0 (k:=fun iW dB=>cG 3 [73,72,71,70,59,58,57,11,52,51,50,10,9,7,6,5,4,2] (h:=?_)))))
 have V6:(bQ.getD k ai).n=(bQ.getD k ai).xs.length:=(show bH (aw .i64) iW (.slice (bQ.getD k ai).a (bQ.getD k ai).n (bQ.getD k ai).c) (bQ.getD k ai).xs from (ga.own (dB.cB 3 rfl)).get ai k oz).len
 have MV:(bQ.getD k ai).xs.length≤1000000:=by rw [xV sW oz];have h9:=lG (lA.getD k []);have h8:=IJ.2.2.1 _ (au (d:=[]) (show k<lA.length by omega));omega
 exact ae 1 (h:=aX (k:=b6 2 (h:=by exact ⟨j+1,u2.set k true,rfl,dB,oz,(by first|exact hJ.put oz oz (by rw [Ym];rfl)|exact hJ.put oz oz (by rw [Bool.eq_false_iff.2 Ym];rfl)),rfl⟩)))
 refine ae 2 (h:=aH (eJ.b 5) (k:=ae 2 (h:=bU k (eJ.rt 0) (k:=aU 0 (h:=tH (decide ((((bQ.getD k ai).xs).getD j 0)=f0)) eJ 0 (k:=fun iV gu=>cG 3 [73,72,71,70,59,58,57,11,52,51,50,10,9,7,6,5,4,2] (h:=?_)))))))
 have V6:(bQ.getD k ai).n=(bQ.getD k ai).xs.length:=(show bH (aw .i64) iV (.slice (bQ.getD k ai).a (bQ.getD k ai).n (bQ.getD k ai).c) (bQ.getD k ai).xs from (ga.own (gu.cB 3 rfl)).get ai k oz).len
 have MV:(bQ.getD k ai).xs.length≤1000000:=by rw [xV sW oz];have h9:=lG (lA.getD k []);have h8:=IJ.2.2.1 _ (au (d:=[]) (show k<lA.length by omega));omega
 exact ae 1 (h:=aX (k:=b6 2 (h:=by exact ⟨j+1,u2.set k (decide ((((bQ.getD k ai).xs).getD j 0)=f0)),rfl,gu,oz,(by first|exact hJ.put oz oz (by rw [Ym];rfl)|exact hJ.put oz oz (by rw [Bool.eq_false_iff.2 Ym];rfl)),rfl⟩)))
 exact ae 4 (h:=aX (k:=b6 2 (h:=by exact ⟨k+1,u2,rfl,eJ,oz,(by exact hJ.done oz (xV sW oz) hf.1),rfl⟩)))
 refine ae 8 (h:=ck (k:=aU 0 (h:=bC dY 6 (k:=fun lT gQ=>fx 4 (h1:=cK (gQ.b 6)) (h2:=cZ) (h:=?_)))))
 have NP:u.length=(List.replicate bQ.length false).length:=by rw [List.length_replicate];omega
 rw [←NP] at gQ
 exact ⟨⟨fE,my,0,PU,u⟩,0,bN,cv,kW,oj,(some ⟨w7.heap.size,0,none⟩),bQ.length,(by rw [←NP]),(gQ.se [7,8,0]),⟨_,_,_,_,yC,hE1,.inl ⟨by omega,rfl,by rw [←hA.fin oz]⟩⟩⟩
theorem s6 (la:aO) (l:List Int) (lc:Nat) (width:Int) (w:World) (rl:cd (aw .i64) w la l lc):
 Calls Tryz.prog 121 #[aG la l lc,ak width] w (bj fun v w'=>∃a2,∃c2:Nat,v=aG a2 (ax l width) c2∧aE w [] w' [cg (aw .i64) 3 a2 (ax l width) c2]):=by
 have dD:=rl.le
 refine cL Tryz.func121 (h:=fun H0=>?_)
 have H1:=H0.nr (aw .i64) 3
 refine cY 17 [6,5,4,0,1] (fun B R L m e v=>∃k,∃q:List Int,∃qa qc,e=(6,bJ k)::(5,aG qa q qc)::B∧aA w L v ([cg (aw .i64) 3 qa q qc]::R)∧(k≤259∧((k:Int)≤width∨k=0))∧(q=l9 l k)∧m=259-k) (i:=⟨0,([]:List Int),none,0,rfl,H1,(by exact ⟨by omega,.inr rfl⟩),rfl,rfl⟩) (h:=?_)
 rintro m1 Γ1 w1 ⟨k,q,qa,qc,rfl,H2,hk,hq,rfl⟩
 have IC:q.length=k:=by rw [hq,FV]
 refine bZ 7 12 (fun g63=>?_) fun g63=>?_
 refine aL 5 (fun Gk=>?_) fun Gk=>?_
 refine ae 14 (h:=jK (k:=cY 4 [8,7,14,13,6,5,4,0,1] (fun B R L m e v=>∃y aa,e=(8,ak y)::(7,ak aa)::B∧aA w L v (R)∧(-1≤y∧y<(l.length:Int))∧(N6 l ((k:Nat):Int) aa y)∧m=(y+1).toNat) (i:=⟨((l.length:Nat):Int)-1,-1,rfl,H2,oz,(by exact N6.start l _),rfl⟩) (h:=?_)))
 rintro m2 Γ2 w2 ⟨y,aa,rfl,H3,hy,iP,rfl⟩
 refine aL 7 (fun Ze=>?_) fun Ze=>?_
 refine ae 8 (h:=bU y.toNat (rl.at H3) (cN:=oz) (k:=ae 0 (h:=cn (rl.at H3) (k:=aL 4 (fun Zd=>?_) fun Zd=>?_))))
 exact ae 8 (h:=jK (k:=b6 2 (h:=by exact ⟨y-1,y,rfl,H3,oz,(by first|exact iP.hit oz oz Zd|exact iP.P7 oz Zd),rfl⟩)))
 exact ae 5 (h:=jK (k:=b6 2 (h:=by exact ⟨y-1,aa,rfl,H3,oz,(by first|exact iP.hit oz oz Zd|exact iP.P7 oz Zd),rfl⟩)))
 refine ae 5 (h:=db (aw .i64) [aa] H3 (k:=fun w3 H4=>ae 0 (h:=fT H4 0 (H4.rt 1) (hb:=dk) (gk:=dk) (k:=fun a1 c1 w4 Vv=>?_))))
 have H5:=(Vv.drop 1).no
 exact ae 6 (h:=aX (k:=b6 2 (h:=by exact ⟨k+1,q++[aa],a1,c1,rfl,(H5.re rfl),(by exact ⟨by omega,.inl oz⟩),(by rw [hq,iP.fin oz oz];exact CQ l k),rfl⟩)))
 refine bE 9 (h:=?_)
 have e1:ax l width=q:=by rw [hq,vz hk.2 hk.1 (by first|omega|(intro h9;exact absurd h9.1 (by assumption))|(intro h9;exact absurd h9.2 (by assumption)))]
 rw [e1]
 exact ⟨qa,qc,rfl,(by have hh:=H2.iz 0;exact hh)⟩
 refine bE 15 (h:=?_)
 have e1:ax l width=q:=by rw [hq,vz hk.2 hk.1 (by first|omega|(intro h9;exact absurd h9.1 (by assumption))|(intro h9;exact absurd h9.2 (by assumption)))]
 rw [e1]
 exact ⟨qa,qc,rfl,(by have hh:=H2.iz 0;exact hh)⟩
theorem pc (eU:aO) (st:List ay) (eT:Nat) (s0:Int) (f0:Int) (aa:aO) (a:List Bool) (ac:Nat) (an:Nat) (sym:Int) (w:World) (eH:cd aP w eU st eT) (ra:bH bu w (.slice aa an ac) a) (hN:oU st s0 f0) (ha:a.length=st.length):
 Calls Tryz.prog 122 #[.agg #[aG eU st eT,ak s0,ak f0],.slice aa an ac,ak sym] w (bj fun v w'=>∃a2 c2,∃o2:List Bool,v=aG a2 o2 c2∧aE w [] w' [cg bu 4 a2 o2 c2]∧(oT st (cF a) sym o2)∧(o2.length=st.length)):=by
 obtain rfl:an=a.length:=ra.len
 have hl:=hN.len
 have jQ:=eH.le
 have VT:=ra.le
 refine cL Tryz.func122 (h:=fun H0=>ae 2 (h:=gI H0 (k:=fun w1 H1=>?_)))
 refine aR 5 rfl (ie (T:=bu) rfl Tryz.underlying26 Tg fun w2 u2=>?_)
 have H2:=H1.nw u2
 refine ae 1 (h:=fT H2 1 (ra.at H2) (hb:=b9) (gk:=b9) (k:=fun a1 c1 w3 H3x=>?_))
 have H3:=H3x.no
 have H4:=H3.ps [1,0]
 refine cY 10 [8,7,6,3,2] (fun B R L m e v=>∃t,∃o:List Bool,e=(8,bJ t)::B∧aA w L v ([aj bu (.slice a1 ((([]:List Bool)++a).length) c1) 4 o]::R)∧(t≤st.length)∧(zg (vV st sym) st.length a o t)∧m=st.length-t) (i:=⟨0,([]:List Bool)++a,rfl,H4,om,(by exact zg.start ha),rfl⟩) (h:=?_)
 rintro m1 Γ1 w4 ⟨t,o,rfl,H5,ht,hR,rfl⟩
 have GR:=hR.len
 refine ae 5 (h:=aH (H5.b 1) (k:=aL 4 (fun RT=>?_) fun RT=>?_))
 refine cY 10 [9,8,7,6,3,2] (fun B R L m e v=>∃i,∃p:List Bool,e=(9,bJ i)::B∧aA w L v ([aj bu (.slice a1 ((([]:List Bool)++a).length) c1) 4 p]::R)∧(i≤st.length)∧(zf (vV st sym) st.length o p i)∧m=st.length-i) (i:=⟨0,o,rfl,H5,om,(by exact zf.start GR),rfl⟩) (h:=?_)
 rintro m2 Γ2 w5 ⟨i,p,rfl,H6,hi,hJ,rfl⟩
 have MT:=hJ.len
 refine ae 5 (h:=aH (H6.b 1) (k:=aL 4 (fun Jk=>?_) fun Jk=>?_))
 refine ae 7 (h:=aH (H6.b 1) (k:=ae 1 (h:=fI i (eH.at H6) (k:=ae 0 (h:=zt (eH.at H6) (k:=ae 0 (h:=da H6 (k:=fun w6 H7=>aU 0 (h:=bC H7 2 (k:=fun w7 H8=>ae 7 (h:=bU i (H8.rt 0) (hj:=dP) (k:=ae 0 (h:=cn (H8.rt 0) (hj:=dP) (k:=cS 3 (fun j0=>?_) fun j0=>?_))))))))))))))
 exact ae 4 (h:=aX (k:=b6 2 (h:=by exact ⟨i+1,p,rfl,(H8.pm [0,1] rfl rfl),om,(by first|exact hJ.skip (by simpa using j0)|exact hJ.go (by simpa using j0) jz (mW kv p)|exact hJ.go (by simpa using j0) jz (x8 kv (by rw [←zw];exact nD) p)|exact hJ.go (by simpa using j0) jz (ph kv (by rw [←zw];exact nD) p)|(exfalso;apply nD;rw [zw];exact ni kv)),rfl⟩)))
 refine mK 3 [10,9,8,7,6,3,2] 0 H8 (fun B R L e v=>∃qg:Bool,e=(71,.bool qg)::B∧aA w L v (R)∧(qg=FL sym (st.getD i aq))) ?_ ?_
 have wN:=(hN.IQ i oz).1
 obtain ⟨_,_,_,_,_,hf6,hf7,hf8,X7⟩:=wN
 have jz:=kN (sym:=sym) (x:=((i:Nat):Int)) hN ⟨by omega,by omega⟩
 refine ae 2 (h:=aH (H8.b 2) (k:=bZ 2 41 (fun Yz=>?_) fun Yz=>?_))
 exact cy 31 (h:=by exact ⟨true,rfl,H8,(by unfold FL goN;rw [Bool.eq_iff_iff];simp only [Bool.or_eq_true,decide_eq_true_eq,Bool.false_eq_true,false_iff,true_iff];omega)⟩)
 refine ae 1 (h:=aH (H8.b 2) (k:=bZ 3 46 (fun adk=>?_) fun adk=>?_))
 exact cy 26 (h:=by exact ⟨true,rfl,H8,(by unfold FL goN;rw [Bool.eq_iff_iff];simp only [Bool.or_eq_true,decide_eq_true_eq,Bool.false_eq_true,false_iff,true_iff];omega)⟩)
 refine ae 1 (h:=aH (H8.b 2) (k:=bZ 2 50 (fun Yy=>?_) fun Yy=>?_))
 refine bZ 3 53 (fun CN=>?_) fun CN=>?_
 exact cy 19 (h:=by exact ⟨true,rfl,H8,(by unfold FL goN;rw [Bool.eq_iff_iff];simp only [Bool.or_eq_true,decide_eq_true_eq,Bool.false_eq_true,false_iff,true_iff];omega)⟩)
 refine bZ 6 59 (fun yG=>?_) fun yG=>?_
 exact cy 13 (h:=by exact ⟨true,rfl,H8,(by unfold FL goN;rw [Bool.eq_iff_iff];simp only [Bool.or_eq_true,decide_eq_true_eq,Bool.false_eq_true,false_iff,true_iff];omega)⟩)
 refine ae 1 (h:=aH (H8.b 2) (k:=bZ 2 63 (fun M8=>?_) fun M8=>?_))
 refine bZ 3 66 (fun IM=>?_) fun IM=>?_
 exact cy 6 (h:=by exact ⟨true,rfl,H8,(by unfold FL goN;rw [Bool.eq_iff_iff];simp only [Bool.or_eq_true,decide_eq_true_eq,Bool.false_eq_true,false_iff,true_iff];omega)⟩)
 exact cy 6 (h:=by exact ⟨decide (sym=(258:Int)),rfl,H8,(by unfold FL goN;rw [Bool.eq_iff_iff];simp only [Bool.or_eq_true,decide_eq_true_eq,Bool.false_eq_true,false_iff,true_iff];omega)⟩)
 exact cy 9 (h:=by exact ⟨false,rfl,H8,(by unfold FL goN;rw [Bool.eq_iff_iff];simp only [Bool.or_eq_true,decide_eq_true_eq,Bool.false_eq_true,false_iff,true_iff];omega)⟩)
 refine ae 10 (h:=aH (H8.b 2) (k:=bZ 2 63 (fun CN=>?_) fun CN=>?_))
 refine bZ 3 66 (fun yG=>?_) fun yG=>?_
 exact cy 6 (h:=by exact ⟨true,rfl,H8,(by unfold FL goN;rw [Bool.eq_iff_iff];simp only [Bool.or_eq_true,decide_eq_true_eq,Bool.false_eq_true,false_iff,true_iff];omega)⟩)
 exact cy 6 (h:=by exact ⟨decide (sym=(258:Int)),rfl,H8,(by unfold FL goN;rw [Bool.eq_iff_iff];simp only [Bool.or_eq_true,decide_eq_true_eq,Bool.false_eq_true,false_iff,true_iff];omega)⟩)
 exact cy 9 (h:=by exact ⟨false,rfl,H8,(by unfold FL goN;rw [Bool.eq_iff_iff];simp only [Bool.or_eq_true,decide_eq_true_eq,Bool.false_eq_true,false_iff,true_iff];omega)⟩)
 rintro Γ3 w8 ⟨qg,rfl,H9,zw⟩
 refine cS 0 (fun nD=>?_) fun nD=>?_
 have wN:=(hN.IQ i oz).1
 obtain ⟨_,_,_,_,_,hf6,hf7,hf8,X7⟩:=wN
 refine ae 3 (h:=aH (H9.b 2) (k:=ae 0 (h:=bU (((st.getD i aq).a).toNat) (H9.rt 0) (cN:=dP) (hj:=dP) (k:=aU 0 (h:=tH true H9 0 (hj:=dP) (k:=fun w9 bO=>?_))))))
 have wN:=(hN.IQ i oz).1
 obtain ⟨_,_,_,_,_,hf6,hf7,hf8,X7⟩:=wN
 have jz:=kN (sym:=sym) (x:=((i:Nat):Int)) hN ⟨by omega,by omega⟩
 refine ae 5 (h:=aH (bO.b 2) (k:=aL 3 (fun kv=>?_) fun kv=>?_))
 exact ae 3 (h:=aH (bO.b 2) (k:=ae 0 (h:=bU (((st.getD i aq).b).toNat) (bO.rt 0) (cN:=dP) (hj:=dP) (k:=aU 0 (h:=tH true bO 0 (hj:=dP) (k:=fun gK bR=>ae 5 (h:=aX (k:=b6 2 (h:=by exact ⟨i+1,(p.set (((st.getD i aq).a).toNat) true).set (((st.getD i aq).b).toNat) true,rfl,(bR.pm [0,1] rfl rfl),om,(by first|exact hJ.skip (by simpa using j0)|exact hJ.go (by simpa using j0) jz (mW kv p)|exact hJ.go (by simpa using j0) jz (x8 kv (by rw [←zw];exact nD) p)|exact hJ.go (by simpa using j0) jz (ph kv (by rw [←zw];exact nD) p)|(exfalso;apply nD;rw [zw];exact ni kv)),rfl⟩)))))))))
 exact ae 5 (h:=aX (k:=b6 2 (h:=by exact ⟨i+1,p.set (((st.getD i aq).a).toNat) true,rfl,(bO.pm [0,1] rfl rfl),om,(by first|exact hJ.skip (by simpa using j0)|exact hJ.go (by simpa using j0) jz (mW kv p)|exact hJ.go (by simpa using j0) jz (x8 kv (by rw [←zw];exact nD) p)|exact hJ.go (by simpa using j0) jz (ph kv (by rw [←zw];exact nD) p)|(exfalso;apply nD;rw [zw];exact ni kv)),rfl⟩)))
 have wN:=(hN.IQ i oz).1
 obtain ⟨_,_,_,_,_,hf6,hf7,hf8,X7⟩:=wN
 have jz:=kN (sym:=sym) (x:=((i:Nat):Int)) hN ⟨by omega,by omega⟩
 refine ae 5 (h:=aH (H9.b 2) (k:=aL 3 (fun kv=>?_) fun kv=>?_))
 exact ae 3 (h:=aH (H9.b 2) (k:=ae 0 (h:=bU (((st.getD i aq).b).toNat) (H9.rt 0) (cN:=dP) (hj:=dP) (k:=aU 0 (h:=tH true H9 0 (hj:=dP) (k:=fun iu cm=>ae 5 (h:=aX (k:=b6 2 (h:=by exact ⟨i+1,p.set (((st.getD i aq).b).toNat) true,rfl,(cm.pm [0,1] rfl rfl),om,(by first|exact hJ.skip (by simpa using j0)|exact hJ.go (by simpa using j0) jz (mW kv p)|exact hJ.go (by simpa using j0) jz (x8 kv (by rw [←zw];exact nD) p)|exact hJ.go (by simpa using j0) jz (ph kv (by rw [←zw];exact nD) p)|(exfalso;apply nD;rw [zw];exact ni kv)),rfl⟩)))))))))
 exact ae 5 (h:=aX (k:=b6 2 (h:=by exact ⟨i+1,p,rfl,(H9.pm [0,1] rfl rfl),om,(by first|exact hJ.skip (by simpa using j0)|exact hJ.go (by simpa using j0) jz (mW kv p)|exact hJ.go (by simpa using j0) jz (x8 kv (by rw [←zw];exact nD) p)|exact hJ.go (by simpa using j0) jz (ph kv (by rw [←zw];exact nD) p)|(exfalso;apply nD;rw [zw];exact ni kv)),rfl⟩)))
 exact ae 5 (h:=aX (k:=b6 2 (h:=by exact ⟨t+1,p,rfl,H6,om,(by exact hR.round (fun s1 h0 h1=>kN hN ⟨h0,h1⟩) hJ oz),rfl⟩)))
 refine bE 9 (h:=?_)
 have Wb:([]++a:List Bool).length=o.length:=by rw [List.nil_append];omega
 exact ⟨a1,c1,o,(by rw [Wb]),(by have hh:=H5.iz 0;rw [Wb] at hh;exact hh),(hR.jZ oz),GR⟩
theorem O0 (eU:aO) (st:List ay) (eT:Nat) (s0:Int) (f0:Int) (la:aO) (l:List Int) (lc:Nat) (w:World) (eH:bH aP w (.slice eU st.length eT) st) (rl:bH (aw .i64) w (.slice la l.length lc) l) (hN:oU st s0 f0) (hlr:∀t,t∈l→0≤t∧t<(st.length:Int)):
 Calls Tryz.prog 123 #[.agg #[.slice eU st.length eT,ak s0,ak f0],.slice la l.length lc] w (bj fun v w'=>∃a2 c2,∃o2:List Bool,v= .slice a2 o2.length c2∧aE w [] w' [aj bu (.slice a2 o2.length c2) 4 o2]∧(∀t,t∈cF o2↔t∈l)∧(o2.length=st.length)):=by
 have hl:=hN.len
 have jQ:=eH.le
 have dD:=rl.le
 refine cL Tryz.func123 (h:=fun H0=>ae 2 (h:=gI H0 (k:=fun w1 H1=>ae 6 (h:=aH (H1.b 0) (k:=?_)))))
 refine aR 1 rfl (iE st.length false (T:=bu) rfl Tryz.underlying26 Tg rfl rfl rfl rfl oz oz fun w2 u2=>?_)
 have H2:=H1.nw u2
 have H3:=H2.ps [1,0]
 refine cY 10 [6,5,4,1] (fun B R L m e v=>∃k,∃o:List Bool,e=(6,bJ k)::B∧aA w L v ([aj bu (.slice (some ⟨w1.heap.size,0,none⟩) ((List.replicate st.length false).length) st.length) 4 o]::R)∧(k≤l.length)∧(Vq st.length l o k)∧m=l.length-k) (i:=⟨0,List.replicate st.length false,rfl,H3,om,(by exact Vq.start _ _),rfl⟩) (h:=?_)
 rintro m1 Γ1 w3 ⟨k,o,rfl,H4,hk,hO,rfl⟩
 have hoo:=hO.len
 refine aL 9 (fun aiA=>?_) fun aiA=>?_
 have hfk:=hlr _ (au (d:=0) (show k<l.length by omega))
 refine ae 8 (h:=bU k (rl.at H4) (k:=ae 0 (h:=cn (rl.at H4) (k:=bZ 2 22 (fun ahR=>?_) fun ahR=>?_))))
 refine ae 2 (h:=bU k (rl.at H4) (k:=ae 0 (h:=cn (rl.at H4) (k:=aL 6 (fun Vc=>?_) fun Vc=>?_))))
 exact ae 4 (h:=bU k (rl.at H4) (k:=ae 0 (h:=cn (rl.at H4) (k:=ae 0 (h:=bU ((l.getD k 0).toNat) (H4.rt 0) (cN:=oz) (k:=aU 0 (h:=tH true H4 0 (k:=fun w4 H5=>ae 5 (h:=aX (k:=b6 2 (h:=by exact ⟨k+1,o.set ((l.getD k 0).toNat) true,rfl,H5,om,(by exact hO.step oz rfl hfk),rfl⟩)))))))))))
 exfalso;first|omega|(simp only [List.length_replicate] at Vc;omega)
 omega
 exact bE 9 (h:=⟨(some ⟨w1.heap.size,0,none⟩),st.length,o,(by first|(rw [hoo,List.length_replicate];done)|(rw [hoo,List.length_replicate];rfl)),(by have hh:=H4.iz 0;rw [List.length_replicate] at hh;rw [hoo];exact hh),(hO.fin oz (fun t ht=>(hlr t ht).1)),hoo⟩)
theorem Hr (eU:aO) (st:List ay) (eT:Nat) (s0:Int) (f0:Int) (aa:aO) (a:List Bool) (ac:Nat) (an:Nat) (bI:Int) (b:Nat) (w:World) (eH:cd aP w eU st eT) (ra:bH bu w (.slice aa an ac) a) (YO:bI=((b:Nat):Int)) (hN:oU st s0 f0) (ha:a.length=st.length) (hb:b<256):
 Calls Tryz.prog 124 #[.agg #[aG eU st eT,ak s0,ak f0],.slice aa an ac,ak bI] w (bj fun v w'=>∃a2 c2,∃o2:List Bool,v=aG a2 o2 c2∧aE w [] w' [cg bu 4 a2 o2 c2]∧(oT st (ef st (cF a) b) 0 o2)∧(o2.length=st.length)):=by
 obtain rfl:an=a.length:=ra.len
 subst YO
 have hl:=hN.len
 have jQ:=eH.le
 have VT:=ra.le
 refine cL Tryz.func124 (h:=fun H0=>ae 2 (h:=gI H0 (k:=fun w1 H1=>ae 6 (h:=aH (H1.b 0) (k:=?_)))))
 refine aR 1 rfl (iE st.length false (T:=bu) rfl Tryz.underlying26 Tg rfl rfl rfl rfl oz oz fun w2 u2=>?_)
 have H2:=H1.nw u2
 have H3:=H2.ps [1,0]
 refine cY 10 [8,7,6,3,1,2] (fun B R L m e v=>∃k,∃o:List Bool,e=(8,bJ k)::B∧aA w L v ([aj bu (aG (some ⟨w1.heap.size,0,none⟩) (List.replicate st.length false) st.length) 4 o]::R)∧(k≤st.length)∧(we st a b o k)∧m=st.length-k) (i:=⟨0,List.replicate st.length false,rfl,H3,om,(by exact we.start _ _ _),rfl⟩) (h:=?_)
 rintro m1 Γ1 w3 ⟨k,o,rfl,H4,hk,hS,rfl⟩
 have hoo:=hS.len
 refine ae 5 (h:=aH (H4.b 1) (k:=aL 4 (fun Zn=>?_) fun Zn=>?_))
 refine mK 4 [8,7,6,3,1,2] 0 H4 (fun B R L e v=>∃q:Bool,e=(42,.bool q)::B∧aA w L v (R)∧(q=(a.getD k false&&je st b k))) ?_ ?_
 refine ae 3 (h:=bU k (ra.at H4) (k:=ae 0 (h:=cn (ra.at H4) (k:=ik 1 24 (fun ahT=>?_) fun ahT=>?_))))
 refine ae 1 (h:=aH (H4.b 1) (k:=ae 1 (h:=fI k (eH.at H4) (k:=ae 0 (h:=iL (eH.at H4) (k:=ae 0 (h:=nU (eH.at H4) (k:=bZ 3 33 (fun adf=>?_) fun adf=>?_))))))))
 refine ae 1 (h:=aH (H4.b 1) (k:=ae 1 (h:=fI k (eH.at H4) (k:=ae 0 (h:=iL (eH.at H4) (k:=?_))))))
 refine aR 0 rfl (mO k aq (T:=aP) (us:=[_,_,_,_]) rfl rfl rfl Tryz.underlying87 rfl Hc rfl (eH.at H4) oz rfl (ae 1 (h:=aM (c:=ke ((st.getD k aq).set) b w3 oz) (k:=?_))))
 rintro _ w4 ⟨rfl,u3⟩
 have H5:=H4.call u3
 exact cy 2 (h:=by exact ⟨((st.getD k aq).set).has b,rfl,H5,(by unfold je;rw [Int.toNat_natCast];simp_all)⟩)
 exact cy 10 (h:=by exact ⟨false,rfl,H4,(by unfold je;rw [Int.toNat_natCast];simp_all)⟩)
 exact cy 19 (h:=by exact ⟨false,rfl,H4,(by unfold je;rw [Int.toNat_natCast];simp_all)⟩)
 rintro Γ2 w5 ⟨q,rfl,H6,hq⟩
 refine cS 0 (fun aiF=>?_) fun aiF=>?_
 have wN:=(hN.IQ k oz).1
 obtain ⟨_,_,_,_,_,hf6,hf7,hf8,X7⟩:=wN
 exact ae 3 (h:=aH (H6.b 1) (k:=ae 1 (h:=fI k (eH.at H6) (k:=ae 0 (h:=iL (eH.at H6) (k:=ae 0 (h:=nU (eH.at H6) (k:=ae 0 (h:=bU (((st.getD k aq).a).toNat) (H6.rt 0) (cN:=oz) (k:=aU 0 (h:=tH true H6 0 (k:=fun w6 H7=>ae 5 (h:=aX (k:=b6 2 (h:=by exact ⟨k+1,o.set (((st.getD k aq).a).toNat) true,rfl,H7,om,(by first|exact hS.yes (by rw [←hq];assumption) oz|exact hS.no (by rw [←hq];assumption)),rfl⟩)))))))))))))))
 exact ae 5 (h:=aX (k:=b6 2 (h:=by exact ⟨k+1,o,rfl,H6,om,(by first|exact hS.yes (by rw [←hq];assumption) oz|exact hS.no (by rw [←hq];assumption)),rfl⟩)))
 refine ae 4 (h:=b8 (H4.b 1) (k:=ae 1 (h:=aM (c:=pc eU st eT _ _ _ o _ ((List.replicate st.length false).length) _ w3 (eH.at H4) (H4.rt 0) hN hoo) (k:=?_))))
 rintro _ w7 ⟨bN,cv,kM,rfl,u5,sZ,Fx⟩
 have H8:Uu3:=(H4.im u5).re rfl
 exact bE 4 (h:=⟨bN,cv,kM,rfl,H8.iz 2,(sZ.congr (hS.fin hN ha oz)),Fx⟩)
theorem Ev (zr:aO) (ps:List (LR Bool)) (zp:Nat) (psn:Nat) (xa:aO) (x:List Bool) (xc:Nat) (xn:Nat) (os:List (List Bool)) (w:World) (rps:bH aW w (.slice zr psn zp) ps) (rx:bH bu w (.slice xa xn xc) x) (dps:(bh bu 4).Rd w ps) (V2:ps.map LR.xs=os) (V5:∀y,y∈os→y.length=x.length):
 Calls Tryz.prog 125 #[.slice zr psn zp,.slice xa xn xc] w (bj fun v w'=>v=ak (lL os x)∧aE w [] w' []):=by
 obtain rfl:psn=ps.length:=rps.len
 obtain rfl:xn=x.length:=rx.len
 have MT:ps.length=os.length:=(by rw [←V2];simp)
 have agc:=rps.le
 have ajG:=rx.le
 refine cL Tryz.func125 (h:=fun H0=>cY 12 [5,4,0,1] (fun B R L m e v=>∃i,e=(5,bJ i)::B∧aA w L v (R)∧(i≤ps.length)∧(∀j,j<i→os.getD j []≠x)∧m=ps.length-i) (i:=⟨0,rfl,H0,om,(by intro j hj;omega),rfl⟩) (h:=?_))
 rintro m1 Γ1 w1 ⟨i,rfl,H1,hi,qJ,rfl⟩
 refine aL 9 (fun c12=>?_) fun c12=>?_
 have V6:(ps.getD i ai).n=(ps.getD i ai).xs.length:=(show bH bu w1 (.slice (ps.getD i ai).a (ps.getD i ai).n (ps.getD i ai).c) (ps.getD i ai).xs from (dps.at H1).get ai i oz).len
 have lS:(ps.getD i ai).xs=os.getD i []:=B8 V2 i
 have hyl:(ps.getD i ai).xs.length=x.length:=by rw [lS];exact V5 _ (au oz)
 refine cY 16 [7,6,5,4,0,1] (fun B R L m e v=>∃k,∃sm:Bool,e=(7,bJ k)::(6,.bool sm)::B∧aA w L v (R)∧(k≤x.length)∧(sm=ri (ps.getD i ai).xs x k)∧m=x.length-k) (i:=⟨0,true,rfl,H1,om,(by rw [Ek]),rfl⟩) (h:=?_)
 rintro m2 Γ2 w2 ⟨k,sm,rfl,H2,hk,KM,rfl⟩
 refine aL 9 (fun Lj=>?_) fun Lj=>?_
 refine eI 4 H2 (h:=fun w3 H3=>EI 2 21 (fun g15=>?_) fun g15=>?_)
 refine bY 2 4 (rps.at H3) (D:=fun _ hC=>bU i hC) (h:=bY 0 5 (rps.at H3) (D:=fun _ hC=>cn hC) (h:=bY 1 7 (show bH bu w3 (.slice ((ps.getD i ai).a) ((ps.getD i ai).n) ((ps.getD i ai).c)) ((ps.getD i ai).xs) from (dps.at H3).get ai i oz) (D:=fun _ hC=>bU k hC) (h:=bY 0 8 (show bH bu w3 (.slice ((ps.getD i ai).a) ((ps.getD i ai).n) ((ps.getD i ai).c)) ((ps.getD i ai).xs) from (dps.at H3).get ai i oz) (D:=fun _ hC=>cn hC) (h:=bY 2 11 (rx.at H3) (D:=fun _ hC=>bU k hC) (h:=bY 0 12 (rx.at H3) (D:=fun _ hC=>cn hC) (h:=?_))))))
 exact mN 0 13 ⟨_,_,_,rfl,rfl,rfl,rfl,rfl,rfl⟩ (fun _=>Rv Tryz.underlying4 rfl rfl ⟨rfl,rfl⟩) (ae 7 (h:=aX (k:=b6 2 (h:=by exact ⟨k+1,decide ((((ps.getD i ai).xs).getD k false)=(x.getD k false)),rfl,H3,om,(by rw [vd,←KM];simp_all),rfl⟩))))
 exact ae 19 (h:=aX (k:=b6 2 (h:=by exact ⟨k+1,false,rfl,H3,om,(by rw [vd,←KM];simp_all),rfl⟩)))
 refine cS 7 (fun Wu=>?_) fun Wu=>?_
 refine bE 7 (h:=?_)
 have e9:lL os x=(i:Int):=Nb oz (by rw [←lS];exact (xB hyl).1 (by rw [←show k=x.length by omega,←KM];exact Wu)) qJ
 exact ⟨(by rw [e9]),H2.ag⟩
 exact ae 5 (h:=aX (k:=b6 2 (h:=by exact ⟨i+1,rfl,H2,om,(by intro j hj;exact (Nat.lt_or_ge j i).elim (qJ j) (fun h9=>by (obtain rfl:j=i:=by omega);rw [←lS];exact fun h8=>Wu (by rw [KM,show k=x.length by omega];exact (xB hyl).2 h8))),rfl⟩)))
 refine bE 8 (h:=?_)
 have e9:lL os x= -1:=QX (fun j hj=>qJ j oz)
 exact ⟨(by rw [e9]),H1.ag⟩
theorem Eo (eU:aO) (st:List ay) (eT:Nat) (s0:Int) (f0:Int) (aK:Int) (w:World) (eH:bH aP w (.slice eU st.length eT) st) (hN:oU st s0 f0) (Ud:aK≤1024):
 Calls Tryz.prog 88 #[.agg #[.slice eU st.length eT,ak s0,ak f0],ak aK] w (bj fun v w'=>∃d:ar,∃ok:Bool,∃ca cc,∃na nc,∃ba bc,v= .tuple #[.agg #[.slice ca d.cls.length cc,ak d.width,ak d.start,.slice na d.next.length nc,.slice ba d.acc.length bc],.bool ok]∧aE w [] w' [aj (aw .i64) (.slice ca d.cls.length cc) 3 d.cls,aj (aw .i64) (.slice na d.next.length nc) 3 d.next,aj bu (.slice ba d.acc.length bc) 4 d.acc]∧(oS st s0 f0 aK d (if ok=true then 0 else 5))):=by
 have hl:=hN.len
 have hs:=hN.s
 have hf:=hN.f
 have jQ:=eH.le
 refine cL Tryz.func88 (h:=fun H0=>ae 2 (h:=gI H0 (k:=fun w1 H1=>ae 0 (h:=da H1 (k:=fun w2 H2=>ae 5 (h:=b8 (H2.b 0) (k:=ae 0 (h:=aM (c:=B5 eU st eT _ _ w2 (eH.at H2) hN) (k:=?_)))))))))
 rintro _ w3 ⟨bN,cv,fE,my,rfl,u3,yC⟩
 have H3:=H2.ns u3
 have hcr:=yC.k8
 have wM:=kf yC
 refine ae 11 (h:=aM (c:=s6 bN fE _ _ w3 (H3.rt 2)) (k:=?_))
 rintro _ w4 ⟨gW,jB,rfl,u4⟩
 have H4:=H3.ns u4
 refine eI 4 H4 (h:=fun w5 H5=>cP 0 0 (H5.b 0) (D:=fun _ hC=>b8 hC) (h:=cP 0 1 (H5.b 0) (D:=fun _ hC=>b8 hC) (h:=cP 1 3 (H5.b 0) (D:=fun _ hC=>aH hC) (h:=c7 0 4 (D:=db (aw .i64) [s0] H5 (k:=fun w6 H6=>?_))))))
 refine ⟨⟨(H6.b 0),(H6.b 0),trivial⟩,?_⟩
 refine c7 0 5 (D:=aM (c:=O0 eU st eT _ _ _ [s0] _ w6 (eH.at H6) (H6.rt 4) hN (by intro t ht;simp only [List.mem_singleton] at ht;subst ht;exact hs)) (k:=?_))
 rintro _ w7 ⟨kW,oj,kM,rfl,u6,QA,Fx⟩
 have H7:=H6.ns u6
 refine ⟨⟨(H7.b 0),trivial⟩,?_⟩
 refine c7 0 6 (D:=aM (c:=pc eU st eT _ _ kW kM _ kM.length _ w7 (eH.at H7) (H7.rt 5) hN Fx) (k:=?_))
 rintro _ w8 ⟨pN,rL,kL,rfl,u7,sZ,Qz⟩
 have H8:=H7.ns u7
 refine ⟨trivial,?_⟩
 refine c7 0 7 (D:=db aW ([⟨pN,kL.length,rL,kL⟩]:List (LR Bool)) H8 (k:=fun w9 H9=>?_))
 refine ⟨trivial,?_⟩
 have bO:=H9.sn
 have bR:Uu8:=aA.of (aE.j7 bO (l:=[6,0,1,2,3,4,5,7]) rfl rfl) rfl
 have cm:aA w [] w9 [[aC (bh bu 4).row ([⟨pN,kL.length,rL,kL⟩]:List (LR Bool))],[bm w.heap.size #[.slice eU st.length eT,ak s0,ak f0] 153],[bm w1.heap.size #[.slice none 0 0,ak 0,ak 0,.slice none 0 0,.slice none 0 0] 28],[aj (aw .i64) (.slice bN fE.length cv) 3 fE],[aj (aw .i64) (.slice gW ((ax fE my).length) jB) 3 (ax fE my)],[aj (aw .i64) (.slice (some ⟨w5.heap.size,0,none⟩) ([s0].length) ([s0].length)) 3 [s0]],[aj bu (.slice kW kM.length oj) 4 kM],[aj aW (.slice (some ⟨w8.heap.size,0,none⟩) (([⟨pN,kL.length,rL,kL⟩]:List (LR Bool)).length) (([⟨pN,kL.length,rL,kL⟩]:List (LR Bool)).length)) 26 ([⟨pN,kL.length,rL,kL⟩]:List (LR Bool))]]:=bR.VK 0 rfl
 have cW:=cm.nr (aw .i64) 3
 have cH:=cW.ps [0,7,8,1,2,3,4,5,6]
 refine cY 15 [11,10,9,8,7,6,5,4,2,1] (fun B R L m e v=>∃at9,∃os:List (List Bool),∃nx:List Int,∃HX HW,∃pq:List (LR Bool),∃Py Px,e=(11,bJ at9)::(10,.slice HX nx.length HW)::(9,.slice Py pq.length Px)::B∧aA w L v ([aC (bh bu 4).row pq]::[aj aW (.slice Py pq.length Px) 26 pq]::[aj (aw .i64) (.slice HX nx.length HW) 3 nx]::R)∧(ew (jF st) [] (ax fE my) (jZ st [s0] 0) at9=(os,nx))∧(JN st (ax fE my) (jZ st [s0] 0) aK at9)∧(at9≤1024)∧(os.length≤1300)∧(nx.length=at9*(ax fE my).length)∧(pq.map LR.xs=os)∧(∀y,y∈os→y.length=st.length)∧m=(aK+1-(at9:Int)).toNat) (i:=⟨0,[kL],([]:List Int),none,0,([⟨pN,kL.length,rL,kL⟩]:List (LR Bool)),(some ⟨w8.heap.size,0,none⟩),([⟨pN,kL.length,rL,kL⟩]:List (LR Bool)).length,rfl,cH,(by show ([(jZ st [s0] 0)],([]:List Int))=_;rw [y2 hN (sZ.congr QA) (by intro t ht;simp only [List.mem_singleton] at ht;omega)]),(by intro q hq;omega),oz,(by simp),(by simp),rfl,(by intro y hy;simp only [List.mem_singleton] at hy;subst hy;exact Qz),rfl⟩) (h:=?_)
 rintro m1 Γ1 gK ⟨at9,os,nx,HX,HW,pq,Py,Px,rfl,cI,NQ,Un,iP,NV,MV,sV,hlen,rfl⟩
 have agH:pq.length=os.length:=by rw [←sV];simp
 have hnb:=Kw iP (show (ax fE my).length≤259 by omega)
 have rQ:os.Nodup:=by have h9:=gy (tr:=jF st) (d:=([]:List Bool)) (ax fE my) (jZ st [s0] 0) at9;rw [NQ] at h9;exact h9
 refine bZ 8 37 (fun g30=>?_) fun g30=>?_
 refine aL 7 (fun qL=>?_) fun qL=>?_
 refine cY 10 [12,10,9,41,40,39,38,11,8,7,6,5,4,2,1] (fun B R L m e v=>∃c9,∃oF:List (List Bool),∃vW:List Int,∃Cf Ce,∃pr:List (LR Bool),∃Mj Mi,e=(12,bJ c9)::(10,.slice Cf vW.length Ce)::(9,.slice Mj pr.length Mi)::B∧aA w L v ([aC (bh bu 4).row pr]::[aj aW (.slice Mj pr.length Mi) 26 pr]::[aj (aw .i64) (.slice Cf vW.length Ce) 3 vW]::R)∧(c9≤(ax fE my).length)∧(lz (jF st) [] at9 ((ax fE my).take c9) (os,nx)=(oF,vW))∧(pr.map LR.xs=oF)∧(∀y,y∈oF→y.length=st.length)∧m=(ax fE my).length-c9) (i:=⟨0,os,nx,HX,HW,pq,Py,Px,rfl,cI,oz,rfl,(by exact sV),(by exact hlen),rfl⟩) (h:=?_)
 rintro m2 Γ2 iu ⟨c9,oF,vW,Cf,Ce,pr,Mj,Mi,rfl,cT,hc9,V0,nh,FB,rfl⟩
 have XV:pr.length=oF.length:=by rw [←nh];simp
 have hrf:=Ep rQ V0 hc9
 refine aL 8 (fun wW=>?_) fun wW=>?_
 have V6:(pr.getD at9 ai).n=(pr.getD at9 ai).xs.length:=(show bH bu iu (.slice (pr.getD at9 ai).a (pr.getD at9 ai).n (pr.getD at9 ai).c) (pr.getD at9 ai).xs from (ga.own (cT.cB 0 rfl)).get ai at9 oz).len
 have lS:(pr.getD at9 ai).xs=oF.getD at9 []:=B8 nh at9
 have MO:=FB _ (au (d:=[]) (show at9<oF.length by omega))
 have hfc:=wM.2 _ (au (d:=0) (show c9<(ax fE my).length by omega))
 refine ae 8 (h:=bU at9 (cT.rt 1) (hj:=(by first|omega|(rw [lS];omega))) (k:=ae 0 (h:=cn (cT.rt 1) (hj:=(by first|omega|(rw [lS];omega))) (k:=mK 3 [12,10,9,41,40,39,38,11,8,7,6,5,4,2,1] 0 cT (fun B R L e v=>∃x9:List Bool,∃xa xc,e=(13,.slice xa x9.length xc)::B∧aA w L v ([aj bu (.slice xa x9.length xc) 4 x9]::R)∧(x9=jF st (oF.getD at9 []) ((ax fE my).getD c9 0))∧(x9.length=st.length)) ?_ ?_))))
 refine ae 4 (h:=bU c9 (cT.rt 6) (hj:=(by first|omega|(rw [lS];omega))) (k:=ae 0 (h:=cn (cT.rt 6) (hj:=(by first|omega|(rw [lS];omega))) (k:=aL 3 (fun Ak=>?_) fun Ak=>?_))))
 refine eI 0 cT (h:=fun iW dj=>cP 0 0 (dj.b 3) (D:=fun _ hC=>b8 hC) (h:=bY 3 4 (dj.rt 6) (D:=fun _ hC=>bU c9 hC (hj:=(by first|omega|(rw [lS];omega)))) (h:=bY 0 5 (dj.rt 6) (D:=fun _ hC=>cn hC (hj:=(by first|omega|(rw [lS];omega)))) (h:=c7 0 6 (D:=aM (c:=Hr eU st eT _ _ _ ((pr.getD at9 ai).xs) _ ((pr.getD at9 ai).n) _ (((ax fE my).getD c9 0).toNat) iW (eH.at dj) (show bH bu iW (.slice ((pr.getD at9 ai).a) ((pr.getD at9 ai).n) ((pr.getD at9 ai).c)) ((pr.getD at9 ai).xs) from (ga.own (dj.cB 0 rfl)).get ai at9 (by first|omega|(rw [lS];omega))) oz hN (by rw [lS];exact MO) oz) (k:=?_))))))
 rintro _ iV ⟨JG,RN,af5,rfl,u9,M3,agM⟩
 have dY:Uu10:=(dj.im u9).re rfl
 refine ⟨trivial,?_⟩
 exact cy 2 (h:=by exact ⟨af5,JG,RN,rfl,(dY.pm [9,0,1,2,3,4,5,6,7,8] rfl rfl),(by first|exact (xk hN Ak (by rw [←lS];exact M3) MO).symm|exact (tO hN Ak (by rw [←lS];exact acJ)).symm),qz⟩)
 refine eI 0 cT (h:=fun lT eJ=>cP 0 0 (eJ.b 3) (D:=fun _ hC=>b8 hC) (h:=bY 3 4 (eJ.rt 6) (D:=fun _ hC=>bU c9 hC (hj:=(by first|omega|(rw [lS];omega)))) (h:=bY 0 5 (eJ.rt 6) (D:=fun _ hC=>cn hC (hj:=(by first|omega|(rw [lS];omega)))) (h:=c7 0 6 (D:=aM (c:=pc eU st eT _ _ _ ((pr.getD at9 ai).xs) _ ((pr.getD at9 ai).n) _ lT (eH.at eJ) (show bH bu lT (.slice ((pr.getD at9 ai).a) ((pr.getD at9 ai).n) ((pr.getD at9 ai).c)) ((pr.getD at9 ai).xs) from (ga.own (eJ.cB 0 rfl)).get ai at9 (by first|omega|(rw [lS];omega))) hN (by rw [lS];exact MO)) (k:=?_))))))
 rintro _ qx ⟨Vl,Zj,af4,rfl,qZ,acJ,al7⟩
 have dB:Uu10:=(eJ.im qZ).re rfl
 refine ⟨trivial,?_⟩
 exact cy 2 (h:=by exact ⟨af4,Vl,Zj,rfl,(dB.pm [9,0,1,2,3,4,5,6,7,8] rfl rfl),(by first|exact (xk hN Ak (by rw [←lS];exact M3) MO).symm|exact (tO hN Ak (by rw [←lS];exact acJ)).symm),qz⟩)
 rintro Γ3 qw ⟨x9,xa,xc,rfl,gu,hx9,XK⟩
 refine ae 4 (h:=aM (c:=Ev Mj pr Mi pr.length xa x9 xc x9.length oF qw (gu.rt 2) (gu.rt 0) (ga.own (gu.cB 1 rfl)) nh (fun y hy=>(FB y hy).trans XK.symm)) (k:=?_))
 rintro _ uW ⟨rfl,zJ⟩
 have gQ:=gu.call zJ
 refine aL 10 (fun wV=>?_) fun wV=>?_
 refine ae 10 (h:=db aW ([⟨xa,x9.length,xc,x9⟩]:List (LR Bool)) gQ (k:=fun zI jy=>ae 0 (h:=fT jy 2 (jy.rt 10) (hb:=b9) (gk:=b9) (k:=fun a1 c1 zo ai6=>?_))))
 have lv:=(ai6.drop 10).no
 have j5:aA _ _ _ [[],[_],[_],[_],[_],[_],[_],[_],[_],[_],[]]:=(aA.kC (f:=(bh bu 4).row) (⟨xa,x9.length,xc,x9⟩:(LR Bool)) lv 1 0 rfl rfl rfl).re rfl
 refine ae 6 (h:=db (aw .i64) [((pr.length:Nat):Int)] j5 (k:=fun DV kY=>ae 0 (h:=fT kY 3 (kY.rt 11) (hb:=b9) (gk:=b9) (k:=fun a2 c2 Od ai5=>?_))))
 have ja:=(ai5.drop 11).no
 exact cG 4 [10,9,12,41,40,39,38,11,8,7,6,5,4,2,1] (h:=ae 2 (h:=aX (k:=b6 2 (h:=by exact ⟨c9+1,dM oF x9,vW++[((pr.length:Nat):Int)],a2,c2,pr++([⟨xa,x9.length,xc,x9⟩]:List (LR Bool)),a1,c1,rfl,(ja.re rfl),oz,(by have h9:=xK V0 oz hx9;first|(rw [(ql wV).2,←XV] at h9;exact h9)|(rw [(qk wV).2] at h9;exact h9)),(by first|(rw [(ql wV).1,List.map_append,nh];rfl)|(rw [(qk wV).1];exact nh)),(by exact tA FB XK),rfl⟩))))
 refine ae 5 (h:=db (aw .i64) [lL oF x9] gQ (k:=fun LD lX=>ae 0 (h:=fT lX 3 (lX.rt 10) (hb:=b9) (gk:=b9) (k:=fun a3 c3 LC ZT=>?_))))
 have oV:=(ZT.drop 10).no
 exact ae 6 (h:=aX (k:=b6 2 (h:=by exact ⟨c9+1,dM oF x9,vW++[lL oF x9],a3,c3,pr,Mj,Mi,rfl,(oV.pm [1,2,3,4,5,6,7,8,9] rfl rfl),oz,(by have h9:=xK V0 oz hx9;first|(rw [(ql wV).2,←XV] at h9;exact h9)|(rw [(qk wV).2] at h9;exact h9)),(by first|(rw [(ql wV).1,List.map_append,nh];rfl)|(rw [(qk wV).1];exact nh)),(by exact tA FB XK),rfl⟩)))
 exact ae 5 (h:=aX (k:=b6 2 (h:=by exact ⟨at9+1,oF,vW,Cf,Ce,pr,Mj,Mi,rfl,cT,(by exact Eb NQ (by rw [show (ax fE my).length=c9 by omega];exact V0)),(by exact Un.next NQ oz oz),oz,oz,(by rw [Nat.succ_mul];omega),(by exact nh),(by exact FB),rfl⟩)))
 refine aL 11 (fun zD=>?_) fun zD=>?_
 refine ae 2 (h:=ck (k:=aU 0 (h:=bC cI 4 (k:=fun Oc mJ=>fx 4 (h1:=cK (mJ.b 4)) (h2:=cZ) (h:=?_)))))
 have mI:=mJ.nr (aw .i64) 3
 have mH:=mI.nr (aw .i64) 3
 have oM:=mH.nr bu 4
 exact ⟨⟨[],0,0,[],[]⟩,false,none,0,none,0,none,0,rfl,(oM.se [9,10,11]),⟨_,_,_,_,yC,Un.fin NQ oz,.inr ⟨by omega,rfl,rfl⟩⟩⟩
 refine ae 7 (h:=ck (k:=ae 0 (h:=da cI (k:=fun SA qO=>aU 0 (h:=bC qO 9 (k:=fun VD tN=>?_))))))
 have zG:=tN.nr bu 4
 have xe:=zG.sn
 have uT:=xe.ps [9,10,0,1,2,3,4,5,6,7,8]
 refine cY 9 [16,15,9,5,4,2] (fun B R L m e v=>∃oO,∃Lp:List Bool,∃Jw Jv,e=(16,bJ oO)::B∧aA w L v ([bm gK.heap.size #[.slice bN fE.length cv,ak my,ak 0,.slice HX nx.length HW,.slice Jw Lp.length Jv] 28]::[aj bu (.slice Jw Lp.length Jv) 4 Lp]::R)∧(oO≤os.length)∧(Lp=(os.take oO).map (·.getD f0.toNat false))∧(Lp.length=oO)∧m=os.length-oO) (i:=⟨0,([]:List Bool),none,0,rfl,uT,oz,rfl,rfl,rfl⟩) (h:=?_)
 rintro m3 Γ4 Ob ⟨oO,Lp,Jw,Jv,rfl,wh,hk,hac,ahj,rfl⟩
 refine aL 9 (fun RJ=>?_) fun RJ=>?_
 have V6:(pq.getD oO ai).n=(pq.getD oO ai).xs.length:=(show bH bu Ob (.slice (pq.getD oO ai).a (pq.getD oO ai).n (pq.getD oO ai).c) (pq.getD oO ai).xs from (ga.own (wh.cB 2 rfl)).get ai oO oz).len
 have lS:(pq.getD oO ai).xs=os.getD oO []:=B8 sV oO
 have MO:=hlen _ (au (d:=[]) (show oO<os.length by omega))
 refine eI 4 wh (h:=fun Oa tM=>cP 1 1 (tM.b 0) (D:=fun _ hC=>aH hC) (h:=bY 2 4 (tM.rt 3) (D:=fun _ hC=>bU oO hC (hj:=(by first|omega|(rw [lS];omega)))) (h:=bY 0 5 (tM.rt 3) (D:=fun _ hC=>cn hC (hj:=(by first|omega|(rw [lS];omega)))) (h:=cP 1 7 (tM.b 5) (D:=fun _ hC=>aH hC) (h:=bY 0 8 (show bH bu Oa (.slice ((pq.getD oO ai).a) ((pq.getD oO ai).n) ((pq.getD oO ai).c)) ((pq.getD oO ai).xs) from (ga.own (tM.cB 2 rfl)).get ai oO (by first|omega|(rw [lS];omega))) (D:=fun _ hC=>bU f0.toNat hC (cN:=(by first|omega|(rw [lS];omega))) (hj:=(by first|omega|(rw [lS];omega)))) (h:=bY 0 9 (show bH bu Oa (.slice ((pq.getD oO ai).a) ((pq.getD oO ai).n) ((pq.getD oO ai).c)) ((pq.getD oO ai).xs) from (ga.own (tM.cB 2 rfl)).get ai oO (by first|omega|(rw [lS];omega))) (D:=fun _ hC=>cn hC (hj:=(by first|omega|(rw [lS];omega)))) (h:=c7 0 10 (D:=db bu [((pq.getD oO ai).xs).getD f0.toNat false] tM (k:=fun WT DO=>?_)))))))))
 refine ⟨⟨(DO.b 0),trivial,trivial⟩,?_⟩
 refine c7 0 11 (D:=fT DO 1 (DO.rt 11) (hb:=b9) (gk:=b9) (k:=fun a4 c4 WS aiX=>?_))
 have Lt:=(aiX.drop 11).no
 refine ⟨trivial,?_⟩
 refine c7 1 13 (D:=jA Lt 0 (k:=fun Z1 JL=>?_))
 refine ⟨trivial,?_⟩
 exact ae 5 (h:=aX (k:=b6 2 (h:=by exact ⟨oO+1,Lp++[((pq.getD oO ai).xs).getD f0.toNat false],a4,c4,rfl,(JL.re rfl),oz,(by rw [gw [] oz,List.map_append,←hac,lS];rfl),gv,rfl⟩)))
 exact ae 4 (h:=b8 (wh.b 0) (k:=aU 0 (h:=bC wh 6 (k:=fun Z0 JK=>fx 4 (h1:=cK (JK.b 6)) (h2:=cZ) (h:=⟨⟨fE,my,0,nx,Lp⟩,true,bN,cv,HX,HW,Jw,Jv,rfl,(JK.se [7,4,1]),⟨_,_,_,_,yC,Un.fin NQ oz,.inl ⟨by omega,rfl,by rw [hac,List.take_of_length_le oz]⟩⟩⟩)))))
 refine aL 19 (fun zD=>?_) fun zD=>?_
 refine ae 2 (h:=ck (k:=aU 0 (h:=bC cI 4 (k:=fun w33 JJ=>fx 4 (h1:=cK (JJ.b 4)) (h2:=cZ) (h:=?_)))))
 have JI:=JJ.nr (aw .i64) 3
 have N5:=JI.nr (aw .i64) 3
 have zF:=N5.nr bu 4
 exact ⟨⟨[],0,0,[],[]⟩,false,none,0,none,0,none,0,rfl,(zF.se [9,10,11]),⟨_,_,_,_,yC,Un.fin NQ oz,.inr ⟨by omega,rfl,rfl⟩⟩⟩
 refine ae 7 (h:=ck (k:=ae 0 (h:=da cI (k:=fun w34 SY=>aU 0 (h:=bC SY 9 (k:=fun w35 SX=>?_))))))
 have SW:=SX.nr bu 4
 have SV:=SW.sn
 have ZS:=SV.ps [9,10,0,1,2,3,4,5,6,7,8]
 refine cY 9 [16,15,9,5,4,2] (fun B R L m e v=>∃oO,∃Lp:List Bool,∃Jw Jv,e=(16,bJ oO)::B∧aA w L v ([bm gK.heap.size #[.slice bN fE.length cv,ak my,ak 0,.slice HX nx.length HW,.slice Jw Lp.length Jv] 28]::[aj bu (.slice Jw Lp.length Jv) 4 Lp]::R)∧(oO≤os.length)∧(Lp=(os.take oO).map (·.getD f0.toNat false))∧(Lp.length=oO)∧m=os.length-oO) (i:=⟨0,([]:List Bool),none,0,rfl,ZS,oz,rfl,rfl,rfl⟩) (h:=?_)
 rintro m4 Γ5 w36 ⟨fB,Wx,ZM,ZL,rfl,Ls,hk,hac,ahj,rfl⟩
 refine aL 9 (fun RJ=>?_) fun RJ=>?_
 have V6:(pq.getD fB ai).n=(pq.getD fB ai).xs.length:=(show bH bu w36 (.slice (pq.getD fB ai).a (pq.getD fB ai).n (pq.getD fB ai).c) (pq.getD fB ai).xs from (ga.own (Ls.cB 2 rfl)).get ai fB oz).len
 have lS:(pq.getD fB ai).xs=os.getD fB []:=B8 sV fB
 have MO:=hlen _ (au (d:=[]) (show fB<os.length by omega))
 refine eI 4 Ls (h:=fun ZZ Lr=>cP 1 1 (Lr.b 0) (D:=fun _ hC=>aH hC) (h:=bY 2 4 (Lr.rt 3) (D:=fun _ hC=>bU fB hC (hj:=(by first|omega|(rw [lS];omega)))) (h:=bY 0 5 (Lr.rt 3) (D:=fun _ hC=>cn hC (hj:=(by first|omega|(rw [lS];omega)))) (h:=cP 1 7 (Lr.b 5) (D:=fun _ hC=>aH hC) (h:=bY 0 8 (show bH bu ZZ (.slice ((pq.getD fB ai).a) ((pq.getD fB ai).n) ((pq.getD fB ai).c)) ((pq.getD fB ai).xs) from (ga.own (Lr.cB 2 rfl)).get ai fB (by first|omega|(rw [lS];omega))) (D:=fun _ hC=>bU f0.toNat hC (cN:=(by first|omega|(rw [lS];omega))) (hj:=(by first|omega|(rw [lS];omega)))) (h:=bY 0 9 (show bH bu ZZ (.slice ((pq.getD fB ai).a) ((pq.getD fB ai).n) ((pq.getD fB ai).c)) ((pq.getD fB ai).xs) from (ga.own (Lr.cB 2 rfl)).get ai fB (by first|omega|(rw [lS];omega))) (D:=fun _ hC=>cn hC (hj:=(by first|omega|(rw [lS];omega)))) (h:=c7 0 10 (D:=db bu [((pq.getD fB ai).xs).getD f0.toNat false] Lr (k:=fun w38 Sr=>?_)))))))))
 refine ⟨⟨(Sr.b 0),trivial,trivial⟩,?_⟩
 refine c7 0 11 (D:=fT Sr 1 (Sr.rt 11) (hb:=b9) (gk:=b9) (k:=fun a5 c5 w39 aiV=>?_))
 have WN:=(aiV.drop 11).no
 refine ⟨trivial,?_⟩
 refine c7 1 13 (D:=jA WN 0 (k:=fun w40 WK=>?_))
 refine ⟨trivial,?_⟩
 exact ae 5 (h:=aX (k:=b6 2 (h:=by exact ⟨fB+1,Wx++[((pq.getD fB ai).xs).getD f0.toNat false],a5,c5,rfl,(WK.re rfl),oz,(by rw [gw [] oz,List.map_append,←hac,lS];rfl),gv,rfl⟩)))
 exact ae 4 (h:=b8 (Ls.b 0) (k:=aU 0 (h:=bC Ls 6 (k:=fun w41 Vw=>fx 4 (h1:=cK (Vw.b 6)) (h2:=cZ) (h:=⟨⟨fE,my,0,nx,Wx⟩,true,bN,cv,HX,HW,ZM,ZL,rfl,(Vw.se [7,4,1]),⟨_,_,_,_,yC,Un.fin NQ oz,.inl ⟨by omega,rfl,by rw [hac,List.take_of_length_le oz]⟩⟩⟩)))))
theorem yh (d:ar) (fN:aO) (fR:aO) (gq:aO) (fM:Nat) (fQ:Nat) (gp:Nat) (bla:aO) (bl:List Int) (blc:Nat) (Lf:aO) (cl:List Int) (Le:Nat) (width:Int) (w:World) (gS:cd (aw .i64) w fN d.cls fM) (iy:cd (aw .i64) w fR d.next fQ) (iM:cd bu w gq d.acc gp) (Xd:cd (aw .i64) w bla bl blc) (rcl:cd (aw .i64) w Lf cl Le) (cq:aN d=true) (Ac:wm d bl) (GW:bl.length=d.acc.length) (yB:∀j,j<(ax cl width).length→0≤(ax cl width).getD j 0∧(ax cl width).getD j 0<259) (hfw:(ax cl width).length≤259):
 Calls Tryz.prog 117 #[.agg #[aG fN d.cls fM,ak d.width,ak d.start,aG fR d.next fQ,aG gq d.acc gp],aG bla bl blc,aG Lf cl Le,ak width] w (bj fun v w'=>∃na,∃nc:Nat,∃ba,∃bc:Nat,v= .agg #[aG Lf cl Le,ak width,ak 0,aG na ((cE d bl (ax cl width) 4097 0 ([d.start],[])).2) nc,aG ba ((cE d bl (ax cl width) 4097 0 ([d.start],[])).1.map (Du d)) bc]∧aE w [] w' [cg (aw .i64) 3 na ((cE d bl (ax cl width) 4097 0 ([d.start],[])).2) nc,cg bu 4 ba ((cE d bl (ax cl width) 4097 0 ([d.start],[])).1.map (Du d)) bc]):=by
 have wH:=bo.1 cq
 have iH:=gS.le
 have iG:=iy.le
 have iJ:=iM.le
 have age:=Xd.le
 have agd:=rcl.le
 refine cL Tryz.func117 (h:=fun H0=>ae 2 (h:=gI H0 (k:=fun w1 H1=>ae 0 (h:=da H1 (k:=fun w2 H2=>ae 6 (h:=ck (k:=ae 0 (h:=da H2 (k:=fun w3 H3=>aU 0 (h:=bC H3 2 (k:=fun w4 H4=>?_)))))))))))
 refine aR 4 rfl (qm (fun a:Int=>ak a) (fun a:Int=>ak a) fun w5 u5=>?_)
 have H5:=H4.nw u5
 refine ae 2 (h:=aH (H5.b 0) (k:=ae 0 (h:=bU d.start.toNat (Xd.at H5) (cN:=oz) (k:=ae 0 (h:=cn (Xd.at H5) (k:=?_))))))
 refine Cd 0 rfl (Rp (ek:=(fun a:Int=>ak a)) (fW:=(fun a:Int=>ak a)) (bl.getD d.start.toNat 0) 0 vZ Tryz.underlying258 rfl rfl rfl (H5.dH 3) fun w6 u6=>?_)
 have H6:=H5.un 3 u6
 refine ae 7 (h:=aH (H6.b 0) (k:=ae 0 (h:=db (aw .i64) [d.start] H6 (k:=fun w7 H7=>ae 7 (h:=aM (c:=yK Lf cl Le _ w7 (rcl.at H7)) (k:=?_))))))
 rintro _ w8 ⟨bN,cv,rfl,u8⟩
 have H8:=H7.ns u8
 have H9:=H8.nr (aw .i64) 3
 have bO:=H9.nr bu 4
 have bR:=bO.sn
 have cm:=bR.ps [2,3,4,6,7,0,1,5]
 refine cY 10 [13,11,12,10,9,8,4,1] (fun B R L m e v=>∃k,∃hs:List Int,∃ha hc,∃nx:List Int,∃na nc,∃ac:List Bool,∃ba bc,∃mm:List (Int×Int),e=(13,bJ k)::(11,aG ha hs hc)::B∧aA w L v ([bm w2.heap.size #[aG Lf cl Le,ak width,ak 0,aG na nx nc,aG ba ac bc] 28]::[eD (fun a:Int=>ak a) (fun a:Int=>ak a) w4.heap.size mm]::[cg (aw .i64) 3 ha hs hc]::[cg (aw .i64) 3 na nx nc]::[cg bu 4 ba ac bc]::R)∧(k≤hs.length)∧(nH d (ax cl width) (hs,nx) k 0)∧(zh mm (hs.map (dn bl)))∧(ac=(hs.take k).map (Du d))∧((cE d bl (ax cl width) 4097 0 ([d.start],[]))=cE d bl (ax cl width) (4097-k) k (hs,nx))∧m=4097-k) (i:=⟨0,[d.start],(some ⟨w6.heap.size,0,none⟩),[d.start].length,[],none,0,[],none,0,jN [] (bl.getD d.start.toNat 0) 0,rfl,(cm.re rfl),(by simp),(by exact nH.start cq _),(by exact zh.start _),rfl,rfl,rfl⟩) (h:=?_)
 rintro m1 Γ1 w9 ⟨k,hs,ha,hc,nx,na,nc,ac,ba,bc,mm,rfl,cW,hk,hN,hM,hA,hR,rfl⟩
 have hbd:hs.length≤d.acc.length:=hN.bound
 have Yg:ac.length=k:=by rw [hA];simp;omega
 refine aL 9 (fun aix=>?_) fun aix=>?_
 have IF:k<hs.length:=by omega
 have hrk:=(hN.k8 k IF).1
 have XS:0≤hs.getD k 0:=hrk.1
 have abY:hs.getD k 0<(d.acc.length:Int):=hrk.2
 have MV:=hN.zW
 have hnb:nx.length≤4096*259:=by have h8:nx.length=k*(ax cl width).length+0:=MV;have h9:=Nat.mul_le_mul (show k≤4096 by omega) hfw;omega
 refine ae 8 (h:=bU k (cW.rt 2) (k:=ae 0 (h:=cn (cW.rt 2) (k:=eI 4 cW (h:=fun gK cH=>cP 1 1 (cH.b 0) (D:=fun _ hC=>aH hC) (h:=cP 1 3 (cH.b 5) (D:=fun _ hC=>aH hC) (h:=bY 1 5 (iM.at cH) (D:=fun _ hC=>bU ((hs.getD k 0).toNat) hC (cN:=oz)) (h:=bY 0 6 (iM.at cH) (D:=fun _ hC=>cn hC) (h:=c7 0 7 (D:=db bu [d.acc.getD ((hs.getD k 0).toNat) false] cH (k:=fun iu cI=>?_)))))))))))
 refine ⟨⟨(cI.b 0),trivial,trivial⟩,?_⟩
 refine c7 0 8 (D:=fT cI 4 (cI.rt 8) (hb:=dk) (gk:=dk) (k:=fun a1 c1 iW Ss=>?_))
 have cT:=(Ss.drop 8).no
 refine ⟨trivial,?_⟩
 refine c7 1 10 (D:=jA cT 0 (k:=fun iV dj=>?_))
 refine ⟨trivial,?_⟩
 have dY:=dj.ps [0,1,2,3,4,5,6,7]
 refine cY 10 [58,11,57,56,14,13,12,10,9,8,4,1] (fun B R L m e v=>∃j,∃tt:List Int,∃ta tc,∃mx:List Int,∃ma mc,∃mj:List (Int×Int),e=(58,bJ j)::(11,aG ta tt tc)::B∧aA w L v ([bm w2.heap.size #[aG Lf cl Le,ak width,ak 0,aG ma mx mc,aG a1 (ac++[d.acc.getD ((hs.getD k 0).toNat) false]) c1] 28]::[eD (fun a:Int=>ak a) (fun a:Int=>ak a) w4.heap.size mj]::[cg (aw .i64) 3 ta tt tc]::[cg (aw .i64) 3 ma mx mc]::R)∧(j≤(ax cl width).length)∧((tt,mx)=((ax cl width).take j).foldl (eC d bl (hs.getD k 0)) (hs,nx))∧(zh mj (tt.map (dn bl)))∧m=(ax cl width).length-j) (i:=⟨0,hs,ha,hc,nx,na,nc,mm,rfl,dY,oz,rfl,(by exact hM),rfl⟩) (h:=?_)
 rintro m2 Γ2 lT ⟨j,tt,ta,tc,mx,ma,mc,mj,rfl,eJ,hj,hF,zC,rfl⟩
 refine aL 6 (fun aiv=>?_) fun aiv=>?_
 refine ae 6 (h:=bU j (eJ.rt 7) (k:=ae 0 (h:=cn (eJ.rt 7) (k:=?_))))
 have KL:=yB j oz
 have yw:=jM cq KL.1 KL.2
 have hi1:=dS cq XS abY yw.2.1 yw.2.2.1
 have hNj:=(nH.at' cq Ac yB hN IF hj hF).1
 have hbj:=hNj.bound
 have agT:mx.length=k*(ax cl width).length+j:=hNj.zW
 have agU:mx.length≤4096*259+259:=by have h9:=Nat.mul_le_mul (show k≤4096 by omega) hfw;omega
 have htb:tt.length≤d.acc.length:=hbj
 refine eI 4 eJ (h:=fun qx dB=>cP 1 1 (dB.b 5) (D:=fun _ hC=>aH hC) (h:=cP 2 4 (dB.b 5) (D:=fun _ hC=>aH hC) (h:=gZ 0 5 (D:=fun _=>GP) (h:=cP 1 7 (dB.b 5) (D:=fun _ hC=>aH hC) (h:=bY 1 9 (gS.at dB) (D:=fun _ hC=>bU (((ax cl width).getD j 0).toNat) hC (cN:=oz)) (h:=bY 0 10 (gS.at dB) (D:=fun _ hC=>cn hC) (h:=gZ 0 11 (D:=fun _=>aX) (h:=bY 0 12 (iy.at dB) (D:=fun _ hC=>bU ((((hs.getD k 0)*d.width)+(d.cls.getD (((ax cl width).getD j 0).toNat) 0)).toNat) hC (cN:=oz)) (h:=bY 0 13 (iy.at dB) (D:=fun _ hC=>cn hC) (h:=cG 3 [17,58,11,57,56,14,13,12,10,9,8,4,1] (h:=ae 5 (h:=bU ((d.next.getD ((((hs.getD k 0)*d.width)+(d.cls.getD (((ax cl width).getD j 0).toNat) 0)).toNat) 0).toNat) (Xd.at dB) (cN:=oz) (k:=ae 0 (h:=cn (Xd.at dB) (k:=?_)))))))))))))))
 refine aR 0 rfl (CV (ek:=(fun a:Int=>ak a)) (fW:=(fun a:Int=>ak a)) (bl.getD ((d.next.getD ((((hs.getD k 0)*d.width)+(d.cls.getD (((ax cl width).getD j 0).toNat) 0)).toNat) 0).toNat) 0) 0 vZ Tryz.underlying258 zM rfl rfl (dB.po 1 rfl) (cS 14 (fun Da=>?_) fun Da=>?_))
 refine ae 12 (h:=bU ((d.next.getD ((((hs.getD k 0)*d.width)+(d.cls.getD (((ax cl width).getD j 0).toNat) 0)).toNat) 0).toNat) (Xd.at dB) (cN:=oz) (k:=ae 0 (h:=cn (Xd.at dB) (k:=?_))))
 refine Cd 1 rfl (iT (ek:=(fun a:Int=>ak a)) (fW:=(fun a:Int=>ak a)) (bl.getD ((d.next.getD ((((hs.getD k 0)*d.width)+(d.cls.getD (((ax cl width).getD j 0).toNat) 0)).toNat) 0).toNat) 0) ((tt.length:Nat):Int) vZ Tryz.underlying258 rfl rfl rfl (dB.dH 1) fun qw xh=>?_)
 have gu:=dB.un 1 xh
 refine cG 2 [18,17,58,11,57,56,14,13,12,10,9,8,4,1] (h:=ae 3 (h:=db (aw .i64) [d.next.getD ((((hs.getD k 0)*d.width)+(d.cls.getD (((ax cl width).getD j 0).toNat) 0)).toNat) 0] gu (k:=fun uW gQ=>ae 0 (h:=fT gQ 2 (gQ.rt 8) (hb:=dk) (gk:=dk) (k:=fun a2 c2 zI ai7=>?_)))))
 have jy:=(ai7.drop 8).no
 refine ae 5 (h:=aH (jy.b 0) (k:=ae 1 (h:=db (aw .i64) [((tt.length:Nat):Int)] jy (k:=fun zo lv=>ae 0 (h:=fT lv 3 (lv.rt 9) (hb:=dk) (gk:=dk) (k:=fun a3 c3 DV ZU=>?_))))))
 have j5:=(ZU.drop 9).no
 exact aU 1 (h:=jA j5 0 (k:=fun Od kY=>ae 4 (h:=aX (k:=b6 2 (h:=by exact ⟨j+1,tt++[d.next.getD ((((hs.getD k 0)*d.width)+(d.cls.getD (((ax cl width).getD j 0).toNat) 0)).toNat) 0],a2,c2,mx++[((tt.length:Nat):Int)],a3,c3,jN mj (bl.getD ((d.next.getD ((((hs.getD k 0)*d.width)+(d.cls.getD (((ax cl width).getD j 0).toNat) 0)).toNat) 0).toNat) 0) ((tt.length:Nat):Int),rfl,(kY.re rfl),oz,(by first|exact PX hF zC oz (Jn Da)|exact (Ck hF zC oz (Ny Da)).1),(by first|exact (Ck hF zC oz (Ny Da)).2|exact zC),rfl⟩)))))
 refine ae 4 (h:=aH (dB.b 0) (k:=ae 1 (h:=db (aw .i64) [(getM mj (bl.getD ((d.next.getD ((((hs.getD k 0)*d.width)+(d.cls.getD (((ax cl width).getD j 0).toNat) 0)).toNat) 0).toNat) 0)).getD 0] dB (k:=fun LD ja=>ae 0 (h:=fT ja 3 (ja.rt 8) (hb:=dk) (gk:=dk) (k:=fun a4 c4 LC ai4=>?_))))))
 have lX:=(ai4.drop 8).no
 exact aU 1 (h:=jA lX 0 (k:=fun Oc oV=>cG 3 [58,11,57,56,14,13,12,10,9,8,4,1] (h:=ae 1 (h:=aX (k:=b6 2 (h:=by exact ⟨j+1,tt,ta,tc,mx++[(getM mj (bl.getD ((d.next.getD ((((hs.getD k 0)*d.width)+(d.cls.getD (((ax cl width).getD j 0).toNat) 0)).toNat) 0).toNat) 0)).getD 0],a4,c4,mj,rfl,(oV.re rfl),oz,(by first|exact PX hF zC oz (Jn Da)|exact (Ck hF zC oz (Ny Da)).1),(by first|exact (Ck hF zC oz (Ny Da)).2|exact zC),rfl⟩))))))
 refine ae 5 (h:=aX (k:=?_))
 obtain ⟨rr,XQ⟩:=(nH.at' cq Ac yB hN IF hj hF).2
 have hkt:k+1≤tt.length:=by rw [XQ];simp;omega
 exact b6 2 (h:=by exact ⟨k+1,tt,ta,tc,mx,ma,mc,ac++[d.acc.getD ((hs.getD k 0).toNat) false],a1,c1,mj,rfl,eJ,oz,(by exact (nH.at' cq Ac yB hN IF hj hF).1.next oz),(by exact zC),(by rw [hA];exact GD IF XQ),(by exact sC hR IF oz oz hF),rfl⟩)
 refine ae 4 (h:=b8 (cW.b 0) (k:=aU 0 (h:=bC cW 6 (k:=fun SA mJ=>nG 3 (h1:=cK (mJ.b 6)) (h:=?_)))))
 obtain ⟨X0,XZ⟩:=sD hR oz
 have e1:(cE d bl (ax cl width) 4097 0 ([d.start],[])).1.map (Du d)=ac:=by rw [X0,hA,List.take_of_length_le oz]
 rw [e1,XZ]
 exact ⟨na,nc,ba,bc,rfl,(mJ.se [3,4])⟩
theorem Np (d:ar) (fN:aO) (fR:aO) (gq:aO) (fM:Nat) (fQ:Nat) (gp:Nat) (w:World) (gS:cd (aw .i64) w fN d.cls fM) (iy:cd (aw .i64) w fR d.next fQ) (iM:cd bu w gq d.acc gp) (cq:aN d=true):
 Calls Tryz.prog 127 #[.agg #[aG fN d.cls fM,ak d.width,ak d.start,aG fR d.next fQ,aG gq d.acc gp]] w (bj fun v w'=>∃a2,∃Xs:List (LR Bool),∃n2:Nat,∃c2,v= .slice a2 n2 c2∧aE w [] w' [aj aW (.slice a2 n2 c2) 26 Xs,aC (bh bu 4).row Xs]∧(Sy d Xs)∧(n2=d.acc.length)):=by
 have wH:=bo.1 cq
 have iH:=gS.le
 have iG:=iy.le
 have iJ:=iM.le
 refine cL Tryz.func127 (h:=fun H0=>ae 2 (h:=gI H0 (k:=fun w1 H1=>ae 6 (h:=aH (H1.b 0) (k:=?_)))))
 have H2:=H1.nw (aE.kR (bh bu 4).row w1)
 have H3:=H2.nr (aW:Ty (LR Bool)) 26
 have H4:=H3.ps [1,2,0]
 refine cY 16 [5,4,3,2,1] (fun B R L m e v=>∃s,∃Xs:List (LR Bool),∃oa oc,e=(5,bJ s)::(4,aG oa Xs oc)::B∧aA w L v ([aC (bh bu 4).row Xs]::[cg aW 26 oa Xs oc]::R)∧(s≤d.acc.length)∧(Vy d Xs s)∧m=d.acc.length-s) (i:=⟨0,([]:List (LR Bool)),none,0,rfl,H4,om,(by exact Vy.start d),rfl⟩) (h:=?_)
 rintro m1 Γ1 w2 ⟨s,Xs,oa,oc,rfl,H5,hs,hX,rfl⟩
 have hXl:=hX.len
 refine aL 8 (fun SP=>?_) fun SP=>?_
 refine aR 7 rfl (iE d.acc.length false (T:=bu) rfl Tryz.underlying26 Tg rfl rfl rfl rfl oz oz fun w3 u2=>?_)
 have H6:=H5.nw u2
 refine ae 7 (h:=bU s (H6.rt 3) (hj:=uY) (k:=aU 0 (h:=tH true H6 3 (hj:=uY) (k:=fun w4 H7=>?_))))
 have H8:=H7.ps [3,0,1,2]
 refine cY 9 [7,6,5,4,3,2,1] (fun B R L m e v=>∃k,∃q:List Bool,e=(7,bJ k)::B∧aA w L v ([aj bu (aG (some ⟨w2.heap.size,0,none⟩) (List.replicate d.acc.length false) d.acc.length) 4 q]::R)∧(k≤259)∧(WH d s q k)∧m=259-k) (i:=⟨0,(List.replicate d.acc.length false).set s true,rfl,H8,om,(by exact WH.start oz),rfl⟩) (h:=?_)
 rintro m2 Γ2 w5 ⟨k,q,rfl,H9,hk,hq,rfl⟩
 refine aL 7 (fun zD=>?_) fun zD=>?_
 have KU:=jD wH.2.1 k oz
 have Wc:=dS (q:=(s:Int)) cq oz oz KU.1 KU.2
 obtain ⟨x,hx,hxn⟩:∃x:Nat,d.next.getD (((s:Nat):Int)*d.width+d.cls.getD k 0).toNat 0=(x:Int)∧x<d.acc.length:=(by have h9:=jD wH.2.2 (((s:Nat):Int)*d.width+d.cls.getD k 0).toNat oz;exact ⟨(d.next.getD (((s:Nat):Int)*d.width+d.cls.getD k 0).toNat 0).toNat,by omega,by omega⟩)
 have IC:=hq.len
 refine eI 4 H9 (h:=fun w6 bO=>cP 2 2 (bO.b 3) (D:=fun _ hC=>aH hC) (h:=cP 2 5 (bO.b 3) (D:=fun _ hC=>aH hC) (h:=gZ 0 6 (D:=fun _=>GP) (h:=cP 1 8 (bO.b 3) (D:=fun _ hC=>aH hC) (h:=bY 1 10 (gS.at bO) (D:=fun _ hC=>bU k hC (cN:=oz)) (h:=bY 0 11 (gS.at bO) (D:=fun _ hC=>cn hC) (h:=gZ 0 12 (D:=fun _=>aX) (h:=bY 0 13 (iy.at bO) (D:=fun _ hC=>bU (((((s:Nat):Int)*d.width)+(d.cls.getD k 0)).toNat) hC (cN:=oz)) (h:=bY 0 14 (iy.at bO) (D:=fun _ hC=>cn hC) (h:=bY 0 15 (bO.rt 0) (D:=fun _ hC=>bU x hC (cN:=oz)) (h:=c7 0 16 (D:=tH true bO 0 (k:=fun w7 bR=>?_)))))))))))))
 refine ⟨trivial,?_⟩
 exact ae 5 (h:=aX (k:=b6 2 (h:=by exact ⟨k+1,q.set x true,rfl,bR,om,(by exact hq.step hx hxn),rfl⟩)))
 refine ae 5 (h:=db aW ([⟨(some ⟨w2.heap.size,0,none⟩),(List.replicate d.acc.length false).length,d.acc.length,q⟩]:List (LR Bool)) H9 (k:=fun w8 cm=>ae 0 (h:=fT cm 2 (cm.rt 4) (hb:=dk) (gk:=dk) (k:=fun a1 c1 w9 St=>?_))))
 have cW:=(St.drop 4).no
 have cH:aA _ _ _ [[],[_],[_],[_],[]]:=(aA.kC (f:=(bh bu 4).row) (⟨(some ⟨w2.heap.size,0,none⟩),(List.replicate d.acc.length false).length,d.acc.length,q⟩:(LR Bool)) cW 1 0 rfl rfl rfl).re rfl
 exact ae 6 (h:=aX (k:=b6 2 (h:=by exact ⟨s+1,Xs++([⟨(some ⟨w2.heap.size,0,none⟩),(List.replicate d.acc.length false).length,d.acc.length,q⟩]:List (LR Bool)),a1,c1,rfl,(cH.re rfl),om,(by exact hX.step hq oz),rfl⟩)))
 refine cY 9 [8,4,3,2] (fun B R L m e v=>∃mm,∃Y:List (LR Bool),e=(8,bJ mm)::B∧aA w L v ([aC (bh bu 4).row Y]::[aj aW (aG oa Xs oc) 26 Y]::R)∧(mm≤d.acc.length)∧(DB d Y mm 0 0)∧m=d.acc.length-mm) (i:=⟨0,Xs,rfl,H5,om,(by exact hX.done oz),rfl⟩) (h:=?_)
 rintro m3 Γ3 gK ⟨mm,Y,rfl,cI,hm,hY,rfl⟩
 refine aL 8 (fun Aj=>?_) fun Aj=>?_
 refine cY 10 [9,8,4,3,2] (fun B R L m e v=>∃i,∃Z:List (LR Bool),e=(9,bJ i)::B∧aA w L v ([aC (bh bu 4).row Z]::[aj aW (aG oa Xs oc) 26 Z]::R)∧(i≤d.acc.length)∧(DB d Z mm i 0)∧m=d.acc.length-i) (i:=⟨0,Y,rfl,cI,om,(by exact hY),rfl⟩) (h:=?_)
 rintro m4 Γ4 iu ⟨i,Z,rfl,cT,hi,hZ,rfl⟩
 refine aL 8 (fun Li=>?_) fun Li=>?_
 refine cY 10 [10,9,8,4,3,2] (fun B R L m e v=>∃k,∃U:List (LR Bool),e=(10,bJ k)::B∧aA w L v ([aC (bh bu 4).row U]::[aj aW (aG oa Xs oc) 26 U]::R)∧(k≤d.acc.length)∧(DB d U mm i k)∧m=d.acc.length-k) (i:=⟨0,Z,rfl,cT,om,(by exact hZ),rfl⟩) (h:=?_)
 rintro m5 Γ5 iW ⟨GQ,U,rfl,dj,Ug,hU,rfl⟩
 have agz:=hU.row i oz
 have alN:=hU.row mm oz
 have hUl:=hU.len
 refine bZ 7 61 (fun g53=>?_) fun g53=>?_
 refine ae 2 (h:=bU i (dj.rt 1) (k:=ae 0 (h:=cn (dj.rt 1) (k:=ae 1 (h:=bU mm (show bH bu iW (.slice ((U.getD i ai).a) ((U.getD i ai).n) ((U.getD i ai).c)) ((U.getD i ai).xs) from (ga.own (dj.cB 0 rfl)).get ai i oz) (k:=ae 0 (h:=cn (show bH bu iW (.slice ((U.getD i ai).a) ((U.getD i ai).n) ((U.getD i ai).c)) ((U.getD i ai).xs) from (ga.own (dj.cB 0 rfl)).get ai i oz) (k:=cS 3 (fun Va=>?_) fun Va=>?_))))))))
 refine eI 4 dj (h:=fun iV dY=>bY 2 2 (dY.rt 1) (D:=fun _ hC=>bU i hC) (h:=bY 0 3 (dY.rt 1) (D:=fun _ hC=>cn hC) (h:=bY 3 7 (dY.rt 1) (D:=fun _ hC=>bU i hC) (h:=bY 0 8 (dY.rt 1) (D:=fun _ hC=>cn hC) (h:=bY 1 10 (show bH bu iV (.slice ((U.getD i ai).a) ((U.getD i ai).n) ((U.getD i ai).c)) ((U.getD i ai).xs) from (ga.own (dY.cB 0 rfl)).get ai i oz) (D:=fun _ hC=>bU GQ hC) (h:=bY 0 11 (show bH bu iV (.slice ((U.getD i ai).a) ((U.getD i ai).n) ((U.getD i ai).c)) ((U.getD i ai).xs) from (ga.own (dY.cB 0 rfl)).get ai i oz) (D:=fun _ hC=>cn hC) (h:=EI 1 84 (fun g54=>?_) fun g54=>?_)))))))
 refine bY 8 21 (show bH bu iV (.slice ((U.getD i ai).a) ((U.getD i ai).n) ((U.getD i ai).c)) ((U.getD i ai).xs) from (ga.own (dY.cB 0 rfl)).get ai i oz) (D:=fun _ hC=>bU GQ hC) (h:=?_)
 have eJ:Uu4:=dY.iw (f:=(bh bu 4).row) ai 0 i rfl oz
 refine c7 0 22 (D:=tH true eJ 3 (xs:=((U.getD i ai).xs)) (k:=fun lT dB=>?_))
 have gu:Uu3x1:=(dB.jl (f:=(bh bu 4).row) ⟨(U.getD i ai).a,(U.getD i ai).n,(U.getD i ai).c,((U.getD i ai).xs).set GQ true⟩ 0 3 i rfl rfl rfl oz).re rfl
 have gQ:Uu3x1:=gu.xQ (((U.getD i ai).xs).set GQ true) 1 i rfl oz
 refine ⟨trivial,?_⟩
 exact cG 3 [91,90,89,88,87,86,85,68,67,66,65,64,63,62,10,9,8,4,3,2] (h:=ae 2 (h:=aX (k:=b6 2 (h:=by exact ⟨GQ+1,U.set i ⟨(U.getD i ai).a,(U.getD i ai).n,(U.getD i ai).c,((U.getD i ai).xs).set GQ true⟩,rfl,(gQ.re rfl),om,(by first|exact hU.step oz oz oz Va (by unfold bx;rw [g54];rfl)|exact hU.step oz oz oz Va (by unfold bx;rw [Bool.eq_false_iff.2 g54];rfl)),rfl⟩))))
 refine bY 2 15 (dY.rt 1) (D:=fun _ hC=>bU mm hC) (h:=bY 0 16 (dY.rt 1) (D:=fun _ hC=>cn hC) (h:=bY 1 18 (show bH bu iV (.slice ((U.getD mm ai).a) ((U.getD mm ai).n) ((U.getD mm ai).c)) ((U.getD mm ai).xs) from (ga.own (dY.cB 0 rfl)).get ai mm oz) (D:=fun _ hC=>bU GQ hC) (h:=bY 0 19 (show bH bu iV (.slice ((U.getD mm ai).a) ((U.getD mm ai).n) ((U.getD mm ai).c)) ((U.getD mm ai).xs) from (ga.own (dY.cB 0 rfl)).get ai mm oz) (D:=fun _ hC=>cn hC) (h:=bY 1 21 (show bH bu iV (.slice ((U.getD i ai).a) ((U.getD i ai).n) ((U.getD i ai).c)) ((U.getD i ai).xs) from (ga.own (dY.cB 0 rfl)).get ai i oz) (D:=fun _ hC=>bU GQ hC) (h:=?_)))))
 have jy:Uu4:=dY.iw (f:=(bh bu 4).row) ai 0 i rfl oz
 refine c7 0 22 (D:=tH (((U.getD mm ai).xs).getD GQ false) jy 3 (xs:=((U.getD i ai).xs)) (k:=fun qx lv=>?_))
 have j5:Uu3x1:=(lv.jl (f:=(bh bu 4).row) ⟨(U.getD i ai).a,(U.getD i ai).n,(U.getD i ai).c,((U.getD i ai).xs).set GQ (((U.getD mm ai).xs).getD GQ false)⟩ 0 3 i rfl rfl rfl oz).re rfl
 have kY:Uu3x1:=j5.xQ (((U.getD i ai).xs).set GQ (((U.getD mm ai).xs).getD GQ false)) 1 i rfl oz
 refine ⟨trivial,?_⟩
 exact cG 3 [91,90,89,88,87,86,85,68,67,66,65,64,63,62,10,9,8,4,3,2] (h:=ae 2 (h:=aX (k:=b6 2 (h:=by exact ⟨GQ+1,U.set i ⟨(U.getD i ai).a,(U.getD i ai).n,(U.getD i ai).c,((U.getD i ai).xs).set GQ (((U.getD mm ai).xs).getD GQ false)⟩,rfl,(kY.re rfl),om,(by first|exact hU.step oz oz oz Va (by unfold bx;rw [g54];rfl)|exact hU.step oz oz oz Va (by unfold bx;rw [Bool.eq_false_iff.2 g54];rfl)),rfl⟩))))
 exact ae 5 (h:=aX (k:=b6 2 (h:=by exact ⟨i+1,U,rfl,dj,om,(by first|exact hU.pY oz oz (.inl oz)|exact hU.pY oz oz (.inr Va)),rfl⟩)))
 exact ae 16 (h:=aX (k:=b6 2 (h:=by exact ⟨i+1,U,rfl,dj,om,(by first|exact hU.pY oz oz (.inl oz)|exact hU.pY oz oz (.inr Va)),rfl⟩)))
 exact ae 5 (h:=aX (k:=b6 2 (h:=by exact ⟨mm+1,Z,rfl,cT,om,(by exact hZ.Vi oz),rfl⟩)))
 exact bE 9 (h:=⟨oa,Y,Xs.length,oc,rfl,(cI.se [1,0]),hY.fin cq oz,oz⟩)
theorem Mb (d:ar) (fN:aO) (fR:aO) (gq:aO) (fM:Nat) (fQ:Nat) (gp:Nat) (w:World) (gS:cd (aw .i64) w fN d.cls fM) (iy:cd (aw .i64) w fR d.next fQ) (iM:cd bu w gq d.acc gp) (cq:aN d=true):
 Calls Tryz.prog 89 #[.agg #[aG fN d.cls fM,ak d.width,ak d.start,aG fR d.next fQ,aG gq d.acc gp]] w (bj fun v w'=>∃ca,∃cc:Nat,∃na,∃nc:Nat,∃ba,∃bc:Nat,v= .agg #[aG ca ((cJ d).cls) cc,ak ((cJ d).width),ak ((cJ d).start),aG na ((cJ d).next) nc,aG ba ((cJ d).acc) bc]∧aE w [] w' [cg (aw .i64) 3 ca ((cJ d).cls) cc,cg (aw .i64) 3 na ((cJ d).next) nc,cg bu 4 ba ((cJ d).acc) bc]):=by
 have wH:=bo.1 cq
 have iH:=gS.le
 have iG:=iy.le
 have iJ:=iM.le
 refine cL Tryz.func89 (h:=fun H0=>ae 2 (h:=gI H0 (k:=fun w1 H1=>ae 0 (h:=da H1 (k:=fun w2 H2=>ae 4 (h:=b8 (H2.b 0) (k:=ae 0 (h:=aM (c:=Dk d fN fR gq fM fQ gp w2 (gS.at H2) (iy.at H2) (iM.at H2) oz) (k:=?_)))))))))
 rintro _ w3 ⟨bN,jv,cv,R2,rfl,u3,q1⟩
 have H3:=H2.ns u3
 obtain ⟨f9,X7,Ye,_⟩:=q1
 have hbe:jv=uM d:=by rw [Ye,X7.eq cq];rfl
 have Ac:wm d jv:=by rw [hbe];exact Jp d
 have GW:jv.length=d.acc.length:=by rw [hbe];exact y9 d
 refine ae 9 (h:=b8 (H3.b 0) (k:=ae 0 (h:=aM (c:=Np d fN fR gq fM fQ gp w3 (gS.at H3) (iy.at H3) (iM.at H3) oz) (k:=?_))))
 rintro _ w4 ⟨gW,ov,Ij,jB,rfl,u4,q2,q3⟩
 have H4:=H3.ns u4
 have H5:=H4.nr (aw .i64) 3
 have H6:=H5.ps [5,0,1,2,3,4]
 refine cY 15 [7,6,5,3,2,1] (fun B R L m e v=>∃s,∃q:List Int,∃qa qc,e=(7,bJ s)::(6,aG qa q qc)::B∧aA w L v ([cg (aw .i64) 3 qa q qc]::R)∧(s≤259)∧(tD (Am d) q s)∧m=259-s) (i:=⟨0,([]:List Int),none,0,rfl,H6,om,(by exact tD.start _),rfl⟩) (h:=?_)
 rintro m1 Γ1 w5 ⟨s,q,qa,qc,rfl,H7,hs,hq,rfl⟩
 have IC:=hq.len
 refine aL 7 (fun Gi=>?_) fun Gi=>?_
 refine ae 14 (h:=jK (k:=cY 4 [9,8,7,6,5,3,2,1] (fun B R L m e v=>∃y aa,e=(9,ak y)::(8,ak aa)::B∧aA w L v (R)∧(-1≤y∧y<((s:Nat):Int))∧(N7 (Am d) q s aa y)∧m=(y+1).toNat) (i:=⟨((s:Nat):Int)-1,((s:Nat):Int),rfl,H7,oz,(by exact N7.start (fun i s _ _=>pQ.refl d _) q s),rfl⟩) (h:=?_)))
 rintro m2 Γ2 w6 ⟨y,aa,rfl,H8,hy,iP,rfl⟩
 refine aL 7 (fun Jh=>?_) fun Jh=>?_
 refine ae 9 (h:=bU y.toNat (H8.rt 0) (cN:=oz) (k:=ae 0 (h:=cn (H8.rt 0) (k:=aL 4 (fun Gh=>?_) fun Gh=>?_))))
 exact ae 4 (h:=jK (k:=b6 2 (h:=by exact ⟨y-1,aa,rfl,H8,oz,(by first|exact iP.hit oz (KM.1 G2)|exact iP.pass oz (.inr (fun h9=>G2 (KM.2 h9)))|exact iP.pass oz (.inl Gh)),rfl⟩)))
 refine cY 14 [11,10,9,8,7,6,5,3,2,1] (fun B R L m e v=>∃j,∃b:Bool,e=(11,bJ j)::(10,.bool b)::B∧aA w L v (R)∧(j≤jv.length)∧(JH d jv y.toNat s j b)∧m=jv.length-j) (i:=⟨0,true,rfl,H8,om,(by exact JH.start d _ _ _),rfl⟩) (h:=?_)
 rintro m3 Γ3 w7 ⟨j,b,rfl,H9,hj,hb,rfl⟩
 refine bZ 8 50 (fun g88=>?_) fun g88=>?_
 refine cS 4 (fun U6=>?_) fun U6=>?_
 have hcr:=q2.row d.start.toNat oz
 have Um:=q2.len
 have hcv:=q2.val d.start.toNat j oz oz
 rw [Int.toNat_of_nonneg wH.1.2.2.2.2.2.2.1] at hcv
 have Ye:JH d jv y.toNat s j true:=U6▸hb
 have Ua:dn jv (bA d ((j:Nat):Int) ((y.toNat:Nat):Int))=jv.getD (dN d j y) 0:=by rw [Int.toNat_of_nonneg oz,←pI cq oz oz];unfold dn;rw [Int.toNat_natCast]
 have Bl:dn jv (bA d ((j:Nat):Int) ((s:Nat):Int))=jv.getD (dN d j ((s:Nat):Int)) 0:=by rw [←pI cq oz oz];unfold dn;rw [Int.toNat_natCast]
 have Yb:=nC cq (i:=j) oz (c:=y) oz
 have ahc:=nC cq (i:=j) oz (c:=((s:Nat):Int)) oz
 refine eI 4 H9 (h:=fun w8 bO=>cP 2 2 (bO.b 1) (D:=fun _ hC=>aH hC) (h:=bY 0 3 (bO.rt 4) (D:=fun _ hC=>bU d.start.toNat hC (cN:=oz)) (h:=bY 0 4 (bO.rt 4) (D:=fun _ hC=>cn hC) (h:=bY 1 6 (show bH bu w8 (.slice ((ov.getD d.start.toNat ai).a) ((ov.getD d.start.toNat ai).n) ((ov.getD d.start.toNat ai).c)) ((ov.getD d.start.toNat ai).xs) from (ga.own (bO.cB 5 rfl)).get ai d.start.toNat oz) (D:=fun _ hC=>bU j hC) (h:=bY 0 7 (show bH bu w8 (.slice ((ov.getD d.start.toNat ai).a) ((ov.getD d.start.toNat ai).n) ((ov.getD d.start.toNat ai).c)) ((ov.getD d.start.toNat ai).xs) from (ga.own (bO.cB 5 rfl)).get ai d.start.toNat oz) (D:=fun _ hC=>cn hC) (h:=EI 2 64 (fun Yk=>?_) fun Yk=>?_))))))
 exact cG 20 [10,79,78,77,76,75,74,73,72,71,70,69,68,67,66,65,51,11,9,8,7,6,5,3,2,1] (h:=ae 2 (h:=aX (k:=b6 2 (h:=by exact ⟨j+1,true,rfl,bO,om,(by first|exact Ye.skip (fun ht=>by have h9:=hcv.2 ht;unfold bx at h9;rw [h9] at Yk;exact absurd Yk (by decide))|exact Ye.step (hcv.1 (by unfold bx;exact Jn Yk)) (by rw [Ua,Bl])),rfl⟩))))
 refine cP 1 11 (bO.b 1) (D:=fun _ hC=>b8 hC) (h:=cP 3 18 (bO.b 1) (D:=fun _ hC=>b8 hC) (h:=c7 2 14 (D:=aM (c:=pz d fN fR gq fM fQ gp _ j _ w8 (gS.at bO) (iy.at bO) (iM.at bO) oz cq oz oz) (k:=?_))))
 rintro _ w9 ⟨rfl,u5⟩
 have bR:=bO.call u5
 refine ⟨⟨trivial,trivial,(bR.b 1),trivial,trivial,trivial⟩,?_⟩
 refine bY 0 15 (bR.rt 3) (D:=fun _ hC=>bU (dN d j y) hC) (h:=bY 0 16 (bR.rt 3) (D:=fun _ hC=>cn hC) (h:=c7 0 21 (D:=aM (c:=pz d fN fR gq fM fQ gp _ j _ w9 (gS.at bR) (iy.at bR) (iM.at bR) oz cq oz oz) (k:=?_))))
 rintro _ gK ⟨rfl,u6⟩
 have cm:=bR.call u6
 refine ⟨⟨(cm.rt 3),(cm.rt 3),trivial,trivial,trivial⟩,?_⟩
 exact bY 0 22 (cm.rt 3) (D:=fun _ hC=>bU (dN d j ((s:Nat):Int)) hC) (h:=bY 0 23 (cm.rt 3) (D:=fun _ hC=>cn hC) (h:=cG 6 [10,79,78,77,76,71,70,69,75,74,73,72,68,67,66,65,51,11,9,8,7,6,5,3,2,1] (h:=ae 2 (h:=aX (k:=b6 2 (h:=by exact ⟨j+1,decide ((jv.getD (dN d j y) 0)=(jv.getD (dN d j ((s:Nat):Int)) 0)),rfl,cm,om,(by first|exact Ye.skip (fun ht=>by have h9:=hcv.2 ht;unfold bx at h9;rw [h9] at Yk;exact absurd Yk (by decide))|exact Ye.step (hcv.1 (by unfold bx;exact Jn Yk)) (by rw [Ua,Bl])),rfl⟩))))))
 have KM:=JH.fin cq Ac hb (k:=y.toNat) (sym:=s) oz oz GW (by first|(left;omega)|(right;simpa using U6)) hj
 refine cS 7 (fun G2=>?_) fun G2=>?_
 exact absurd G2 U6
 exact ae 5 (h:=jK (k:=b6 2 (h:=by exact ⟨y-1,aa,rfl,H9,oz,(by first|exact iP.hit oz (KM.1 G2)|exact iP.pass oz (.inr (fun h9=>G2 (KM.2 h9)))|exact iP.pass oz (.inl Gh)),rfl⟩)))
 have KM:=JH.fin cq Ac hb (k:=y.toNat) (sym:=s) oz oz GW (by first|(left;omega)|(right;simpa using U6)) hj
 refine cS 12 (fun G2=>?_) fun G2=>?_
 exact ae 8 (h:=jK (k:=b6 2 (h:=by exact ⟨y-1,y,rfl,H9,oz,(by first|exact iP.hit oz (KM.1 G2)|exact iP.pass oz (.inr (fun h9=>G2 (KM.2 h9)))|exact iP.pass oz (.inl Gh)),rfl⟩)))
 exact ae 5 (h:=jK (k:=b6 2 (h:=by exact ⟨y-1,aa,rfl,H9,oz,(by first|exact iP.hit oz (KM.1 G2)|exact iP.pass oz (.inr (fun h9=>G2 (KM.2 h9)))|exact iP.pass oz (.inl Gh)),rfl⟩)))
 refine ae 5 (h:=db (aw .i64) [aa] H8 (k:=fun iu cW=>ae 0 (h:=fT cW 0 (cW.rt 6) (hb:=dk) (gk:=dk) (k:=fun a1 c1 iW ZX=>?_))))
 have cH:=(ZX.drop 6).no
 exact ae 6 (h:=aX (k:=b6 2 (h:=by exact ⟨s+1,q++[aa],a1,c1,rfl,(cH.re rfl),om,(by exact iP.fin (wy d 259) oz hq oz oz),rfl⟩)))
 have e9:s=259:=by omega
 subst e9
 refine ae 4 (h:=da H7 (k:=fun iV cI=>ae 5 (h:=aM (c:=rk qa q qc iV (cI.rt 0) (hq.first (wy d 259)) oz) (k:=?_))))
 rintro _ lT ⟨kW,oj,rfl,qZ⟩
 have cT:=cI.ns qZ
 refine aU 11 (h:=jA cT 6 (k:=fun qx dj=>aU 6 (h:=jA dj 6 (k:=fun qw dY=>ae 5 (h:=aH (dY.b 6) (k:=ae 1 (h:=aH (dY.b 6) (k:=ae 0 (h:=aM (c:=s6 kW (bp q) _ _ qw (dY.rt 7)) (k:=?_))))))))))
 rintro _ uW ⟨pN,rL,rfl,BS⟩
 have eJ:=dY.ns BS
 have X5:=FD hq
 have yB:=X5.1
 have hfw:=X5.2
 refine ae 7 (h:=aH (eJ.b 1) (k:=ae 0 (h:=bU d.start.toNat (eJ.rt 3) (cN:=oz) (k:=ae 0 (h:=cn (eJ.rt 3) (k:=ae 0 (h:=db (aw .i64) [jv.getD d.start.toNat 0] eJ (k:=fun zI dB=>cG 3 [16,15,12,3,2,1] (h:=ae 3 (h:=aH (dB.b 1) (k:=ae 0 (h:=db (aw .i64) [d.start] dB (k:=fun zo gu=>?_)))))))))))))
 have gQ:=gu.nr (aw .i64) 3
 have jy:=gQ.nr bu 4
 have lv:=jy.sn
 have j5:=lv.ps [6,9,10,11,12,0,1,2,3,4,5,7,8]
 refine cY 10 [18,17,16,15,12,3,2,1] (fun B R L m e v=>∃k,∃hs:List Int,∃ha hc,∃nx:List Int,∃na nc,∃ac:List Bool,∃ba bc,∃mt:List Int,∃mta mtc,e=(18,bJ k)::(17,aG ha hs hc)::(16,aG mta mt mtc)::B∧aA w L v ([bm w5.heap.size #[aG kW (bp q) oj,bJ (dd q).length,ak 0,aG na nx nc,aG ba ac bc] 28]::[cg (aw .i64) 3 mta mt mtc]::[cg (aw .i64) 3 ha hs hc]::[cg (aw .i64) 3 na nx nc]::[cg bu 4 ba ac bc]::R)∧(k≤hs.length)∧(nH d (ax (bp q) ((dd q).length:Int)) (hs,nx) k 0)∧(mt=hs.map (dn jv))∧(ac=(hs.take k).map (Du d))∧((cE d jv (ax (bp q) ((dd q).length:Int)) 4097 0 ([d.start],[]))=cE d jv (ax (bp q) ((dd q).length:Int)) (4097-k) k (hs,nx))∧m=4097-k) (i:=⟨0,[d.start],(some ⟨zI.heap.size,0,none⟩),[d.start].length,[],none,0,[],none,0,[jv.getD d.start.toNat 0],(some ⟨uW.heap.size,0,none⟩),[jv.getD d.start.toNat 0].length,rfl,(j5.re rfl),(by simp),(by exact nH.start cq _),rfl,rfl,rfl,rfl⟩) (h:=?_)
 rintro m4 Γ4 DV ⟨k,hs,ha,hc,nx,na,nc,ac,ba,bc,mt,mta,mtc,rfl,kY,hk,hN,hM,hA,hR,rfl⟩
 have hbd:hs.length≤d.acc.length:=hN.bound
 have Yg:ac.length=k:=by rw [hA];simp;omega
 have KN:mt.length=hs.length:=by rw [hM];simp
 refine aL 9 (fun mD=>?_) fun mD=>?_
 have IF:k<hs.length:=by omega
 have hrk:=(hN.k8 k IF).1
 have XS:0≤hs.getD k 0:=hrk.1
 have abY:hs.getD k 0<(d.acc.length:Int):=hrk.2
 have MV:=hN.zW
 have hnb:nx.length≤4096*259:=by have h8:nx.length=k*(ax (bp q) ((dd q).length:Int)).length+0:=MV;have h9:=Nat.mul_le_mul (show k≤4096 by omega) hfw;omega
 refine eI 5 kY (h:=fun Od ja=>cP 1 1 (ja.b 0) (D:=fun _ hC=>aH hC) (h:=cP 1 3 (ja.b 6) (D:=fun _ hC=>aH hC) (h:=bY 2 6 (ja.rt 2) (D:=fun _ hC=>bU k hC) (h:=bY 0 7 (ja.rt 2) (D:=fun _ hC=>cn hC) (h:=bY 0 8 (iM.at ja) (D:=fun _ hC=>bU ((hs.getD k 0).toNat) hC (cN:=oz)) (h:=bY 0 9 (iM.at ja) (D:=fun _ hC=>cn hC) (h:=c7 0 10 (D:=db bu [d.acc.getD ((hs.getD k 0).toNat) false] ja (k:=fun LD lX=>?_)))))))))
 refine ⟨⟨(lX.b 0),trivial,trivial⟩,?_⟩
 refine c7 0 11 (D:=fT lX 4 (lX.rt 13) (hb:=dk) (gk:=dk) (k:=fun a2 c2 LC ZT=>?_))
 have oV:=(ZT.drop 13).no
 refine ⟨trivial,?_⟩
 refine c7 1 13 (D:=jA oV 0 (k:=fun Oc mJ=>?_))
 refine ⟨trivial,?_⟩
 have mI:=mJ.ps [0,1,2,3,4,5,6,7,8,9,10,11,12]
 refine cY 8 [19,17,16,18,15,12,3,2,1] (fun B R L m e v=>∃jj,∃tt:List Int,∃ta tc,∃mx:List Int,∃ma mc,∃mu:List Int,∃Z7 Z6,e=(19,bJ jj)::(17,aG ta tt tc)::(16,aG Z7 mu Z6)::B∧aA w L v ([bm w5.heap.size #[aG kW (bp q) oj,bJ (dd q).length,ak 0,aG ma mx mc,aG a2 (ac++[d.acc.getD ((hs.getD k 0).toNat) false]) c2] 28]::[cg (aw .i64) 3 Z7 mu Z6]::[cg (aw .i64) 3 ta tt tc]::[cg (aw .i64) 3 ma mx mc]::R)∧(jj≤(ax (bp q) ((dd q).length:Int)).length)∧((tt,mx)=((ax (bp q) ((dd q).length:Int)).take jj).foldl (eC d jv (hs.getD k 0)) (hs,nx))∧(mu=tt.map (dn jv))∧m=(ax (bp q) ((dd q).length:Int)).length-jj) (i:=⟨0,hs,ha,hc,nx,na,nc,mt,mta,mtc,rfl,mI,oz,rfl,(by exact hM),rfl⟩) (h:=?_)
 rintro m5 Γ5 SA ⟨jj,tt,ta,tc,mx,ma,mc,mu,Z7,Z6,rfl,mH,hjj,hF,zC,rfl⟩
 have SK:mu.length=tt.length:=by rw [zC];simp
 refine aL 9 (fun aiP=>?_) fun aiP=>?_
 have KL:=yB jj oz
 have hNj:=(nH.at' cq Ac yB hN IF hjj hF).1
 obtain ⟨r9,hr9⟩:=(nH.at' cq Ac yB hN IF hjj hF).2
 have htk:tt.getD k 0=hs.getD k 0:=by rw [hr9];exact lJ IF
 have alE:k<tt.length:=by rw [hr9,List.length_append];omega
 have hdl:=nC cq (i:=(tt.getD k 0).toNat) oz KL
 have hde:((dN d ((tt.getD k 0).toNat) ((ax (bp q) ((dd q).length:Int)).getD jj 0):Nat):Int)=bA d (hs.getD k 0) ((ax (bp q) ((dd q).length:Int)).getD jj 0):=by rw [pI cq oz KL,htk,Int.toNat_of_nonneg XS]
 have We:jv.getD (dN d ((tt.getD k 0).toNat) ((ax (bp q) ((dd q).length:Int)).getD jj 0)) 0=dn jv (bA d (hs.getD k 0) ((ax (bp q) ((dd q).length:Int)).getD jj 0)):=by rw [←hde];unfold dn;rw [Int.toNat_natCast]
 have hbj:=hNj.bound
 have agT:mx.length=k*(ax (bp q) ((dd q).length:Int)).length+jj:=hNj.zW
 have agU:mx.length≤4096*259+259:=by have h9:=Nat.mul_le_mul (show k≤4096 by omega) hfw;omega
 have htb:tt.length≤d.acc.length:=hbj
 refine eI 5 mH (h:=fun VD oM=>cP 0 0 (oM.b 6) (D:=fun _ hC=>b8 hC) (h:=bY 2 3 (oM.rt 2) (D:=fun _ hC=>bU k hC) (h:=bY 0 4 (oM.rt 2) (D:=fun _ hC=>cn hC) (h:=bY 2 7 (oM.rt 12) (D:=fun _ hC=>bU jj hC) (h:=bY 0 8 (oM.rt 12) (D:=fun _ hC=>cn hC) (h:=c7 0 9 (D:=aM (c:=pz d fN fR gq fM fQ gp _ ((tt.getD k 0).toNat) _ VD (gS.at oM) (iy.at oM) (iM.at oM) oz cq oz oz) (k:=?_))))))))
 rintro _ Ob ⟨rfl,u19⟩
 have qO:=oM.call u19
 refine ⟨trivial,?_⟩
 refine ae 8 (h:=bU (dN d ((tt.getD k 0).toNat) ((ax (bp q) (((dd q).length:Nat):Int)).getD jj 0)) (qO.rt 8) (k:=ae 0 (h:=cn (qO.rt 8) (k:=ae 0 (h:=aM (c:=IT Z7 mu Z6 _ Ob (qO.rt 1)) (k:=?_))))))
 rintro _ Oa ⟨rfl,u20⟩
 have tN:=qO.call u20
 refine cG 3 [21,20,19,17,16,18,15,12,3,2,1] (h:=aL 7 (fun tv=>?_) fun tv=>?_)
 refine ae 12 (h:=bU (dN d ((tt.getD k 0).toNat) ((ax (bp q) (((dd q).length:Nat):Int)).getD jj 0)) (tN.rt 8) (k:=ae 0 (h:=cn (tN.rt 8) (k:=ae 0 (h:=db (aw .i64) [jv.getD (dN d ((tt.getD k 0).toNat) ((ax (bp q) (((dd q).length:Nat):Int)).getD jj 0)) 0] tN (k:=fun WT zG=>ae 0 (h:=fT zG 1 (zG.rt 13) (hb:=dk) (gk:=dk) (k:=fun a3 c3 WS ai0=>?_))))))))
 have xe:=(ai0.drop 13).no
 refine ae 6 (h:=db (aw .i64) [(((dN d ((tt.getD k 0).toNat) ((ax (bp q) (((dd q).length:Nat):Int)).getD jj 0)):Nat):Int)] xe (k:=fun Z1 uT=>ae 0 (h:=fT uT 2 (uT.rt 14) (hb:=dk) (gk:=dk) (k:=fun a4 c4 Z0 aiZ=>?_))))
 have wh:=(aiZ.drop 14).no
 refine ae 5 (h:=aH (wh.b 0) (k:=ae 1 (h:=db (aw .i64) [((mu.length:Nat):Int)] wh (k:=fun w33 tM=>ae 0 (h:=fT tM 3 (tM.rt 15) (hb:=dk) (gk:=dk) (k:=fun a5 c5 w34 aiY=>?_))))))
 have DO:=(aiY.drop 15).no
 exact aU 1 (h:=jA DO 0 (k:=fun w35 Lt=>cG 3 [17,16,19,18,15,12,3,2,1] (h:=ae 2 (h:=aX (k:=b6 2 (h:=by exact ⟨jj+1,tt++[(((dN d ((tt.getD k 0).toNat) ((ax (bp q) (((dd q).length:Nat):Int)).getD jj 0)):Nat):Int)],a4,c4,mx++[((mu.length:Nat):Int)],a5,c5,mu++[jv.getD (dN d ((tt.getD k 0).toNat) ((ax (bp q) (((dd q).length:Nat):Int)).getD jj 0)) 0],a3,c3,rfl,(Lt.re rfl),oz,(by first|(rw [hde,show ((mu.length:Nat):Int)=((tt.length:Nat):Int) by omega];exact Ku hF oz (by rw [←zC,←We];exact tv))|(rw [We,zC];exact Kt hF oz (by rw [←zC,←We];exact tv))),(by first|exact zC|(rw [hde,We,zC,List.map_append];rfl)),rfl⟩))))))
 refine ae 4 (h:=aH (tN.b 0) (k:=ae 1 (h:=db (aw .i64) [dp (jv.getD (dN d ((tt.getD k 0).toNat) ((ax (bp q) (((dd q).length:Nat):Int)).getD jj 0)) 0) mu] tN (k:=fun w36 JL=>ae 0 (h:=fT JL 3 (JL.rt 13) (hb:=dk) (gk:=dk) (k:=fun a6 c6 ZZ aiW=>?_))))))
 have JK:=(aiW.drop 13).no
 exact aU 1 (h:=jA JK 0 (k:=fun w38 JJ=>ae 5 (h:=aX (k:=b6 2 (h:=by exact ⟨jj+1,tt,ta,tc,mx++[dp (jv.getD (dN d ((tt.getD k 0).toNat) ((ax (bp q) (((dd q).length:Nat):Int)).getD jj 0)) 0) mu],a6,c6,mu,Z7,Z6,rfl,(JJ.re rfl),oz,(by first|(rw [hde,show ((mu.length:Nat):Int)=((tt.length:Nat):Int) by omega];exact Ku hF oz (by rw [←zC,←We];exact tv))|(rw [We,zC];exact Kt hF oz (by rw [←zC,←We];exact tv))),(by first|exact zC|(rw [hde,We,zC,List.map_append];rfl)),rfl⟩)))))
 refine ae 5 (h:=aX (k:=?_))
 obtain ⟨rr,XQ⟩:=(nH.at' cq Ac yB hN IF hjj hF).2
 have hkt:k+1≤tt.length:=by rw [XQ];simp;omega
 exact b6 2 (h:=by exact ⟨k+1,tt,ta,tc,mx,ma,mc,ac++[d.acc.getD ((hs.getD k 0).toNat) false],a2,c2,mu,Z7,Z6,rfl,mH,oz,(by exact (nH.at' cq Ac yB hN IF hjj hF).1.next oz),(by exact zC),(by rw [hA];exact GD IF XQ),(by exact sC hR IF oz oz hF),rfl⟩)
 refine ae 4 (h:=b8 (kY.b 0) (k:=aU 0 (h:=bC kY 7 (k:=fun w39 JI=>nG 3 (h1:=cK (JI.b 7)) (h:=?_)))))
 obtain ⟨X0,XZ⟩:=sD hR oz
 rw [hbe] at X0 XZ
 obtain ⟨e1,e2,e3,e4,e5⟩:=z6 hq X0 XZ
 have e6:ac=hs.map (Du d):=by rw [hA,List.take_of_length_le oz]
 rw [e1,e2,e3,e4,e5,←e6]
 exact ⟨kW,oj,na,nc,ba,bc,rfl,(JI.se [11,3,4])⟩
theorem Og (d:ar) (fN:aO) (fR:aO) (gq:aO) (fM:Nat) (fQ:Nat) (gp:Nat) (w:World) (gS:cd (aw .i64) w fN d.cls fM) (iy:cd (aw .i64) w fR d.next fQ) (iM:cd bu w gq d.acc gp) (hl:d.cls.length≤1000):
 Calls Tryz.prog 159 #[.agg #[aG fN d.cls fM,ak d.width,ak d.start,aG fR d.next fQ,aG gq d.acc gp]] w (bj fun v w'=>∃a2,∃c2:Nat,v=aG a2 (bD d) c2∧aE w [] w' [cg (aw .i64) 3 a2 (bD d) c2]):=by
 have iH:=gS.le
 have iG:=iy.le
 have iJ:=iM.le
 refine cL Tryz.func159 (h:=fun H0=>ae 2 (h:=gI H0 (k:=fun w1 H1=>ae 6 (h:=aH (H1.b 0) (k:=ae 0 (h:=aM (c:=rJ fN d.cls fM d.cls.length w1 (gS.at H1) oz) (k:=?_)))))))
 rintro _ w2 ⟨bN,cv,rfl,u2⟩
 have H2:=H1.ns u2
 refine ae 6 (h:=aM (c:=Eg bN d.cls _ d.cls.length w2 (H2.dH 1) rfl oz) (k:=?_))
 rintro _ w3 ⟨rfl,u3⟩
 have H3:=H2.un 1 u3
 refine ae 5 (h:=aM (c:=vI bN (o4 d.cls) _ d.cls.length w3 (H3.dH 1) ((k5 _).symm) (by rw [k5];omega)) (k:=?_))
 rintro _ w4 ⟨rfl,u4⟩
 have H4:=H3.un 1 u4
 exact bE 4 (h:=⟨bN,cv,rfl,(by have hh:=H4.iz 1;exact hh)⟩)
theorem Ef (D6:aO) (todo:List Int) (D5:Nat) (n:Nat) (next:FuncId) (VL:List Value) (nx:Int→List Int) (w:World) (hp:Hp w [aj (aw .i64) (.slice D6 todo.length D5) 3 todo]) (hn:n≤5000∧todo.length≤5000) (hr:∀t,t∈todo→0≤t∧t<(n:Int)) (hnx:∀s,0≤s→s<(n:Int)→(nx s).length≤2000000∧∀t,t∈nx s→0≤t∧t<(n:Int)) (bX:gJ Tryz.prog next) (hf:aeB Tryz.prog next VL nx n (dI [aj (aw .i64) (.slice D6 todo.length D5) 3 todo]) w):
 Calls Tryz.prog 160 #[.slice D6 todo.length D5,bJ n,.func (.func next) #[] VL.toArray] w (bj fun v w'=>∃a2,∃o2:List Bool,∃c2,v= .slice a2 o2.length c2∧aE w [aj (aw .i64) (.slice D6 todo.length D5) 3 todo] w' [aj bu (.slice a2 o2.length c2) 4 o2]∧(uQ nx n todo o2)):=by
 refine uZ hp Tryz.func160 (h:=fun H0=>?_)
 refine aR 8 rfl (iE n false (T:=bu) rfl Tryz.underlying26 Tg rfl rfl rfl rfl oz oz fun w1 u1=>?_)
 have H1:=H0.nw u1
 have H2:=H1.ps [1,0]
 refine cY 12 [17,16,15,7,6,0,2] (fun B R L m e v=>∃k,∃o:List Bool,e=(17,bJ k)::B∧aA w L v ([aj bu (.slice (some ⟨w.heap.size,0,none⟩) ((List.replicate n false).length) n) 4 o]::R)∧(k≤todo.length)∧(Dw n todo o k)∧m=todo.length-k) (i:=⟨0,List.replicate n false,rfl,H2,om,(by exact Dw.start n todo),rfl⟩) (h:=?_)
 rintro m1 Γ1 w2 ⟨k,o,rfl,H3,hk,ha,rfl⟩
 have GR:=ha.len
 refine aL 6 (fun kA=>?_) fun kA=>?_
 refine ae 6 (h:=bU k (H3.rt 1) (k:=ae 0 (h:=cn (H3.rt 1) (k:=?_))))
 have hb:=hr (todo.getD k 0) (au oz)
 exact ae 6 (h:=bU ((todo.getD k 0).toNat) (H3.rt 0) (cN:=oz) (k:=aU 0 (h:=tH true H3 0 (k:=fun w3 H4=>ae 4 (h:=aX (k:=b6 2 (h:=by exact ⟨k+1,o.set ((todo.getD k 0).toNat) true,rfl,H4,om,(by exact ha.step oz hr),rfl⟩)))))))
 have hcf:=RG o
 refine cY 4 [0,7,6,2] (fun B R L m e v=>∃o:List Bool,∃td:List Int,∃ta tc,e=(0,.slice ta td.length tc)::B∧aA w L v ([aj bu (.slice (some ⟨w.heap.size,0,none⟩) ((List.replicate n false).length) n) 4 o]::[aj (aw .i64) (.slice ta td.length tc) 3 td]::R)∧(wg nx n todo o td)∧(2*cf o+td.length≤20000)∧m=2*cf o+td.length) (i:=⟨o,todo,D6,D5,rfl,H3,(by exact ha.done oz hr),oz,rfl⟩) (h:=?_)
 rintro m2 Γ2 w4 ⟨mV,td,ta,tc,rfl,H5,hi,hB,rfl⟩
 have Qz:=hi.len
 refine aL 8 (fun Zq=>?_) fun Zq=>?_
 refine ae 8 (h:=jK (k:=ae 0 (h:=bU (td.length-1) (H5.rt 1) (cN:=oz) (k:=ae 0 (h:=cn (H5.rt 1) (k:=ae 8 (h:=jK (k:=?_))))))))
 refine aR 0 rfl (D8 (((td.length:Nat):Int)-1) (td.length-1) (T:=(aw .i64)) (e:=3) (xs:=td) rfl Tryz.underlying25 zM rfl rfl (H5.ow 1) oz oz fun w5 u3=>?_)
 have H6:=H5.un 1 u3
 have jn:=(hi.CE (td.getD (td.length-1) 0) (au oz)).1
 have NW:=hnx _ jn.1 jn.2
 refine aR 7 rfl (kS bX rfl rfl (bj.calls (hf w5 H6.keep (td.getD (td.length-1) 0) oz oz) fun _ w6 p1=>?_))
 obtain ⟨na1,nc1,rfl,u4⟩:=p1
 have H7:=H6.nw u4
 refine cY 5 [43,0,42,41,7,6,2] (fun B R L m e v=>∃j,∃o3:List Bool,∃tj:List Int,∃ua uc,e=(43,bJ j)::(0,.slice ua tj.length uc)::B∧aA w L v ([aj bu (.slice (some ⟨w.heap.size,0,none⟩) ((List.replicate n false).length) n) 4 o3]::[aj (aw .i64) (.slice ua tj.length uc) 3 tj]::R)∧(qM nx n todo o3 tj (td.getD (td.length-1) 0) j)∧(j≤(nx (td.getD (td.length-1) 0)).length)∧(2*cf o3+tj.length+1≤2*cf mV+td.length)∧m=(nx (td.getD (td.length-1) 0)).length-j) (i:=⟨0,mV,td.take (td.length-1),ta,tc,rfl,H7,(by exact hi.pop oz),om,gv,rfl⟩) (h:=?_)
 rintro m3 Γ3 w7 ⟨j,o3,tj,ua,uc,rfl,H8,hj,MX,hm,rfl⟩
 have agM:=hj.len
 have jn:=(hi.CE (td.getD (td.length-1) 0) (au oz)).1
 have NW:=hnx _ jn.1 jn.2
 refine aL 6 (fun RT=>?_) fun RT=>?_
 have jn:=(hi.CE (td.getD (td.length-1) 0) (au oz)).1
 have NW:=hnx _ jn.1 jn.2
 refine ae 6 (h:=bU j (H8.rt 2) (k:=ae 0 (h:=cn (H8.rt 2) (k:=?_))))
 have hb:=NW.2 ((nx (td.getD (td.length-1) 0)).getD j 0) (au oz)
 refine ae 7 (h:=bU (((nx (td.getD (td.length-1) 0)).getD j 0).toNat) (H8.rt 0) (cN:=oz) (k:=ae 0 (h:=cn (H8.rt 0) (k:=cS 3 (fun Jk=>?_) fun Jk=>?_))))
 refine ae 4 (h:=bU (((nx (td.getD (td.length-1) 0)).getD j 0).toNat) (H8.rt 0) (cN:=oz) (k:=aU 0 (h:=tH true H8 0 (k:=fun w8 H9=>ae 5 (h:=db (aw .i64) [(nx (td.getD (td.length-1) 0)).getD j 0] H9 (k:=fun w9 bO=>ae 0 (h:=fT bO 1 (bO.rt 3) (k:=fun a1 c1 gK Sv=>?_))))))))
 have bR:=(Sv.drop 3).no
 have jn:=(hi.CE (td.getD (td.length-1) 0) (au oz)).1
 have NW:=hnx _ jn.1 jn.2
 exact ae 5 (h:=aX (k:=b6 2 (h:=by exact ⟨j+1,o3.set (((nx (td.getD (td.length-1) 0)).getD j 0).toNat) true,tj++[(nx (td.getD (td.length-1) 0)).getD j 0],a1,c1,rfl,(bR.re rfl),(by first|exact hj.new oz hb|exact hj.vk oz (by simpa using Jk)),om,(by first|omega|(have h9:=C6 o3 ((nx (td.getD (td.length-1) 0)).getD j 0).toNat oz (by simpa using Jk);rw [List.length_append,List.length_singleton];omega)),rfl⟩)))
 have jn:=(hi.CE (td.getD (td.length-1) 0) (au oz)).1
 have NW:=hnx _ jn.1 jn.2
 exact ae 4 (h:=aX (k:=b6 2 (h:=by exact ⟨j+1,o3,tj,ua,uc,rfl,H8,(by first|exact hj.new oz hb|exact hj.vk oz (by simpa using Jk)),om,(by first|omega|(have h9:=C6 o3 ((nx (td.getD (td.length-1) 0)).getD j 0).toNat oz (by simpa using Jk);rw [List.length_append,List.length_singleton];omega)),rfl⟩)))
 exact b6 2 (h:=by exact ⟨o3,tj,ua,uc,rfl,(H8.pm [0,1] rfl rfl),(by exact hj.done oz),oz,rfl⟩)
 refine bE 9 (h:=?_)
 have QJ:=hi.fin oz
 exact ⟨(some ⟨w.heap.size,0,none⟩),mV,n,(by rw [Qz,List.length_replicate]),(by have h9:=H5.iz 1;first|(rw [List.length_replicate] at h9;rw [Qz];exact h9)|(have h9:=H5.iz 0;rw [List.length_replicate] at h9;rw [Qz];exact h9)),QJ⟩
theorem Hw (s:Int) (lg:Nat) (la:aO) (lc:Nat) (dg:Nat) (d:ar) (fN:aO) (fM:Nat) (fR:aO) (fQ:Nat) (gq:aO) (gp:Nat) (w:World) (rl:cd (aw .i64) w la (bD d) lc) (rn:cd (aw .i64) w fR d.next fQ) (blg:w.heap[lg]?=some (.cells #[aG la (bD d) lc] 25 (0,0))) (bdg:w.heap[dg]?=some (.cells #[aG fN d.cls fM,ak d.width,ak d.start,aG fR d.next fQ,aG gq d.acc gp] 28 (0,0))) (cq:aN d=true) (hs:0≤s∧s<(d.acc.length:Int)):
 Calls Tryz.prog 161 #[ak s,.pointer (some ⟨lg,0,none⟩),.pointer (some ⟨dg,0,none⟩)] w (bj fun v w'=>∃a2,∃c2:Nat,v=aG a2 (Kr d s) c2∧aE w [] w' [cg (aw .i64) 3 a2 (Kr d s) c2]):=by
 have SK:=oY d
 have wH:=bo.1 cq
 have dD:=rl.le
 have ajH:=rn.le
 refine cL Tryz.func161 (h:=fun H0=>ae 13 (h:=aH (H0.oG.obj blg (by simp)) (k:=?_)))
 have H1:=H0.nr (aw .i64) 3
 refine cY 5 [10,5,9,8,4,0,2] (fun B R L m e v=>∃k,∃q:List Int,∃qa qc,e=(10,bJ k)::(5,aG qa q qc)::B∧aA w L v ([cg (aw .i64) 3 qa q qc]::R)∧(k≤(bD d).length)∧(q=((bD d).take k).map (fun c=>d.next.getD (s*d.width+c).toNat 0))∧(q.length=k)∧m=(bD d).length-k) (i:=⟨0,([]:List Int),none,0,rfl,H1,om,rfl,rfl,rfl⟩) (h:=?_)
 rintro m1 Γ1 w1 ⟨k,q,qa,qc,rfl,H2,hk,hq,IC,rfl⟩
 refine aL 6 (fun Zr=>?_) fun Zr=>?_
 refine ae 6 (h:=bU k (rl.at H2) (k:=ae 0 (h:=cn (rl.at H2) (k:=?_))))
 have KU:=wu cq (x:=(bD d).getD k 0) (au oz)
 have Wc:=dS cq hs.1 hs.2 KU.1 KU.2
 refine ae 6 (h:=aH (H2.oG.obj bdg (by simp)) (k:=ae 2 (h:=aH (H2.oG.obj bdg (by simp)) (k:=ae 0 (h:=GP (k:=ae 1 (h:=aX (k:=ae 0 (h:=bU (((s*d.width)+((bD d).getD k 0)).toNat) (rn.at H2) (cN:=oz) (k:=ae 0 (h:=cn (rn.at H2) (k:=ae 0 (h:=db (aw .i64) [d.next.getD (((s*d.width)+((bD d).getD k 0)).toNat) 0] H2 (k:=fun w2 H3=>ae 0 (h:=fT H3 0 (H3.rt 1) (k:=fun a1 c1 w3 GK=>?_))))))))))))))))
 have H4:=(GK.drop 1).no
 exact ae 5 (h:=aX (k:=b6 2 (h:=by exact ⟨k+1,q++[d.next.getD (((s*d.width)+((bD d).getD k 0)).toNat) 0],a1,c1,rfl,(H4.re rfl),om,(by rw [hq];exact PT oz),gv,rfl⟩)))
 refine bE 9 (h:=?_)
 have e:Kr d s=q:=by rw [hq,List.take_of_length_le oz];rfl
 rw [e]
 exact ⟨qa,qc,rfl,(by have hh:=H2.iz 0;exact hh)⟩
theorem Mc (d:ar) (fN:aO) (fR:aO) (gq:aO) (fM:Nat) (fQ:Nat) (gp:Nat) (w:World) (gS:cd (aw .i64) w fN d.cls fM) (iy:cd (aw .i64) w fR d.next fQ) (iM:cd bu w gq d.acc gp) (Um:d.cls.length≤1000):
 Calls Tryz.prog 115 #[.agg #[aG fN d.cls fM,ak d.width,ak d.start,aG fR d.next fQ,aG gq d.acc gp]] w (bj fun v w'=>∃a2,∃o2:List Bool,∃c2,v=aG a2 o2 c2∧aE w [] w' [cg bu 4 a2 o2 c2]∧(Sl d o2)):=by
 have iH:=gS.le
 have iG:=iy.le
 have iJ:=iM.le
 refine cL Tryz.func115 (h:=fun H0=>ae 2 (h:=gI H0 (k:=fun w1 H1=>ae 6 (h:=b8 (H1.b 0) (k:=ae 0 (h:=aM (c:=tW d fN fR gq fM fQ gp w1 (gS.at H1) (iy.at H1) (iM.at H1)) (k:=?_)))))))
 rintro _ w2 ⟨rfl,u2⟩
 have H2:=H1.call u2
 refine cS 3 (fun Nw=>?_) fun Nw=>?_
 exact bE 6 (h:=⟨none,[],0,rfl,ej H2,⟨fun _=>rfl,fun h=>by rw [h] at Nw;exact absurd Nw dF⟩⟩)
 have cq:aN d=true:=by simpa using Nw
 have wH:=bo.1 cq
 refine ae 4 (h:=b8 (H2.b 0) (k:=ae 0 (h:=aM (c:=Og d fN fR gq fM fQ gp w2 (gS.at H2) (iy.at H2) (iM.at H2) oz) (k:=?_))))
 rintro _ w3 ⟨bN,cv,rfl,u3⟩
 have H3:=H2.ns u3
 refine ae 0 (h:=da H3 (k:=fun w4 H4=>aU 0 (h:=jA H4 2 (k:=fun w5 H5=>ae 5 (h:=aH (H5.b 0) (k:=ae 0 (h:=db (aw .i64) [d.start] H5 (k:=fun w6 H6=>ae 1 (h:=aH (H6.b 0) (k:=?_))))))))))
 refine aR 1 rfl (od rfl rfl (ae 0 (h:=aM (c:=Ef _ [d.start] _ d.acc.length 161 [.pointer (some ⟨w3.heap.size,0,none⟩),.pointer (some ⟨w.heap.size,0,none⟩)] (Kr d) w6 (H6.dH 3) gv (by intro t ht;simp only [List.mem_singleton] at ht;subst ht;omega) (fun s h0 h1=>⟨by have:=TJ d s;omega,fun t ht=>HY cq h0 h1 ht⟩) abw (fun w2 k2 x h0 h1=>Hw x _ _ _ _ d _ _ _ _ _ _ w2 (H6.O9 3 1 rfl rfl rfl k2) (iy.kept (H6.MH 3 rfl k2)) (H6.y8 3 2 rfl rfl rfl k2) (H6.y8 3 0 rfl rfl rfl k2) cq ⟨h0,h1⟩)) (k:=?_))))
 rintro _ w7 ⟨gW,kM,jB,rfl,u7,q1⟩
 have H7:=H6.un 3 u7
 exact bE 4 (h:=⟨gW,kM,jB,rfl,H7.iz 3,O8 cq q1⟩)
end Go.Proofs.YtpbgmkhmdbchpaaGreatDoor
namespace Go.Sx
theorem JS {p:Prop} (h:p:=by first|omega|(simp only [List.length_singleton];omega)):p:=h
end Go.Sx
namespace Go.Proofs.YtpbgmkhmdbchpaaGreatDoor
open Go Go.Sx
theorem yy (g:Nat) (b:Int) (c:Int) (v0:Value) (v1:Value) (v2:Value) (ta:aO) (td:List (Int×Int)) (tc:Nat) (wa:aO) (wt:List (LR Bool)) (wc:Nat) (wn:Nat) (w:World) (hp:Hp w [bm g #[v0,v1,v2,aG ta td tc,.slice wa wn wc] 247,cg kj 249 ta td tc,aj aW (.slice wa wn wc) 26 wt,aC (bh bu 4).row wt]) (hb:0≤b∧b<(wt.length:Int)) (hc:0≤c∧c<((wt.getD b.toNat ai).xs.length:Int)) (hl:td.length≤100000000):
 Calls Tryz.prog 196 #[.pointer (some ⟨g,0,none⟩),.agg #[ak b,ak c]] w (bj fun v w'=>∃xp,∃xo:Nat,∃Ax:List (LR Bool),v= .tuple #[]∧aE w [bm g #[v0,v1,v2,aG ta td tc,.slice wa wn wc] 247,cg kj 249 ta td tc,aj aW (.slice wa wn wc) 26 wt,aC (bh bu 4).row wt] w' [bm g #[v0,v1,v2,aG xp (td++[(b,c)]) xo,.slice wa wn wc] 247,cg kj 249 xp (td++[(b,c)]) xo,aj aW (.slice wa wn wc) 26 Ax,aC (bh bu 4).row Ax]∧(tB wt b.toNat c.toNat true Ax)):=by
 refine uZ hp Tryz.func196 (h:=fun H0=>ae 2 (h:=gI H0 (k:=fun w1 H1=>eI 3 H1 (h:=fun w2 H2=>cP 3 3 (H2.b 0) (D:=fun _ hC=>aH hC) (h:=cP 1 5 (H2.b 4) (D:=fun _ hC=>aH hC) (h:=bY 0 6 (H2.rt 2) (D:=fun _ hC=>bU b.toNat hC (cN:=oz)) (h:=bY 0 7 (H2.rt 2) (D:=fun _ hC=>cn hC) (h:=cP 1 9 (H2.b 4) (D:=fun _ hC=>aH hC) (h:=bY 0 10 (show bH bu w2 (.slice ((wt.getD b.toNat ai).a) ((wt.getD b.toNat ai).n) ((wt.getD b.toNat ai).c)) ((wt.getD b.toNat ai).xs) from (ga.own (H2.cB 3 rfl)).get ai b.toNat oz) (D:=fun _ hC=>bU c.toNat hC (cN:=oz)) (h:=?_))))))))))
 have H3:Uu6:=H2.iw (f:=(bh bu 4).row) ai 3 b.toNat rfl oz
 refine c7 0 11 (D:=tH true H3 5 (xs:=((wt.getD b.toNat ai).xs)) (k:=fun w3 H4=>?_))
 have H5:Uu5x1:=(H4.jl (f:=(bh bu 4).row) ⟨(wt.getD b.toNat ai).a,(wt.getD b.toNat ai).n,(wt.getD b.toNat ai).c,((wt.getD b.toNat ai).xs).set c.toNat true⟩ 3 5 b.toNat rfl rfl rfl oz).re rfl
 have H6:Uu5x1:=H5.xQ (((wt.getD b.toNat ai).xs).set c.toNat true) 2 b.toNat rfl oz
 refine ⟨trivial,?_⟩
 refine eI 2 H6 (h:=fun w4 H7=>cP 4 4 (H7.b 0) (D:=fun _ hC=>aH hC) (h:=cP 0 5 (H7.b 4) (D:=fun _ hC=>b8 hC) (h:=c7 0 6 (D:=db kj ([(b,c)]:List (Int×Int)) H7 (k:=fun w5 H8=>?_)))))
 refine ⟨⟨(H8.b 0),trivial,trivial,trivial,trivial,trivial⟩,?_⟩
 refine c7 0 7 (D:=fT H8 1 (H8.rt 6) (hb:=dk) (gk:=dk) (k:=fun a1 c1 w6 H9x=>?_))
 have H9:=(H9x.drop 6).no
 refine ⟨⟨trivial,trivial⟩,?_⟩
 refine c7 2 10 (D:=jA H9 0 (k:=fun w7 bO=>?_))
 refine ⟨trivial,?_⟩
 exact GN 1 (h:=⟨a1,c1,_,rfl,(bO.se [0,1,2,3]),(tB.mk' oz oz)⟩)
theorem Bj (g:Nat) (c:Int) (a:Int) (b:Int) (v0:Value) (v1:Value) (ma:aO) (ms:List (LR Int)) (mc:Nat) (mn:Nat) (ta:aO) (td:List (Int×Int)) (tc:Nat) (wa:aO) (wt:List (LR Bool)) (wc:Nat) (wn:Nat) (w:World) (hp:Hp w [bm g #[v0,v1,.slice ma mn mc,aG ta td tc,.slice wa wn wc] 247,aj aW (.slice ma mn mc) 25 ms,cg kj 249 ta td tc,aj aW (.slice wa wn wc) 26 wt,aC (bh bu 4).row wt]) (ha:0≤a∧a<(wt.length:Int)∧a<(ms.length:Int)) (hb:0≤b∧b<(wt.length:Int)∧b<(ms.length:Int)) (hc:0≤c∧c<((wt.getD a.toNat ai).xs.length:Int)∧c<((wt.getD b.toNat ai).xs.length:Int)) (hl:td.length≤100000000):
 Calls Tryz.prog 184 #[.pointer (some ⟨g,0,none⟩),ak c,ak a,ak b] w (bj fun v w'=>∃xp,∃xo:Nat,∃Ax:List (LR Bool),∃x:Int,v= .tuple #[]∧aE w [bm g #[v0,v1,.slice ma mn mc,aG ta td tc,.slice wa wn wc] 247,aj aW (.slice ma mn mc) 25 ms,cg kj 249 ta td tc,aj aW (.slice wa wn wc) 26 wt,aC (bh bu 4).row wt] w' [bm g #[v0,v1,.slice ma mn mc,aG xp (td++[(x,c)]) xo,.slice wa wn wc] 247,aj aW (.slice ma mn mc) 25 ms,cg kj 249 xp (td++[(x,c)]) xo,aj aW (.slice wa wn wc) 26 Ax,aC (bh bu 4).row Ax]∧(x=a∨x=b)∧(tB wt x.toNat c.toNat true Ax)):=by
 refine uZ hp Tryz.func184 (h:=fun H0=>eI 2 H0 (h:=fun w1 H1=>cP 3 3 (H1.b 0) (D:=fun _ hC=>aH hC) (h:=bY 1 5 (H1.rt 1) (D:=fun _ hC=>bU b.toNat hC (cN:=oz)) (h:=bY 0 6 (H1.rt 1) (D:=fun _ hC=>cn hC) (h:=cP 4 11 (H1.b 0) (D:=fun _ hC=>aH hC) (h:=bY 1 13 (H1.rt 1) (D:=fun _ hC=>bU a.toNat hC (cN:=oz)) (h:=bY 0 14 (H1.rt 1) (D:=fun _ hC=>cn hC) (h:=aL 4 (fun c77=>?_) fun c77=>?_))))))))
 refine ae 9 (h:=ck (k:=?_))
 have H2:aA _ _ _ [[_,_,_,_],[_]]:=aA.of (aE.j7 H1 (l:=[0,2,3,4,1]) rfl rfl) rfl
 refine ae 0 (h:=aM (c:=yy _ _ _ v0 v1 (.slice ma mn mc) ta td tc wa wt wc wn w1 (H2.dH 0) oz oz oz) (k:=?_))
 rintro _ w2 ⟨jd,jc,fp,rfl,u1,q1⟩
 have H3:=H2.un 0 u1
 exact GN 1 (h:=⟨jd,jc,fp,_,rfl,(H3.se [0,4,1,2,3]),(by first|exact .inl rfl|exact .inr rfl),qz⟩)
 refine ae 6 (h:=ck (k:=?_))
 have H4:aA _ _ _ [[_,_,_,_],[_]]:=aA.of (aE.j7 H1 (l:=[0,2,3,4,1]) rfl rfl) rfl
 refine ae 0 (h:=aM (c:=yy _ _ _ v0 v1 (.slice ma mn mc) ta td tc wa wt wc wn w1 (H4.dH 0) oz oz oz) (k:=?_))
 rintro _ w3 ⟨r8,r7,DP,rfl,u2,q2⟩
 have H5:=H4.un 0 u2
 exact GN 1 (h:=⟨r8,r7,DP,_,rfl,(H5.se [0,4,1,2,3]),(by first|exact .inl rfl|exact .inr rfl),qz⟩)
theorem FK (g:Nat) (la:aO) (l:List Int) (lc:Nat) (ln:Nat) (fa:aO) (fc:Nat) (fn:Nat) (ba:aO) (bl:List Int) (bc:Nat) (bn:Nat) (ma:aO) (ms:List (LR Int)) (mc:Nat) (mn:Nat) (v3:Value) (wa:aO) (wt:List (LR Bool)) (wc:Nat) (wn:Nat) (w:World) (hp:Hp w [bm g #[.slice fa fn fc,.slice ba bn bc,.slice ma mn mc,v3,.slice wa wn wc] 247,aj (aw .i64) (.slice ba bn bc) 3 bl,aj aW (.slice ma mn mc) 25 ms,aC (bh (aw .i64) 3).row ms,aj aW (.slice wa wn wc) 26 wt,aC (bh bu 4).row wt,aj (aw .i64) (.slice la ln lc) 3 l]) (DH:∀x,x∈l→0≤x∧x<(bl.length:Int)) (hms:ms.length≤100000000) (hwt:wt.length≤100000000) (hfn:fn≤100000000):
 Calls Tryz.prog 183 #[.pointer (some ⟨g,0,none⟩),.slice la ln lc] w (bj fun v w'=>∃Ww:List Int,∃VO,∃VN:Nat,∃VC,∃Ax:List (LR Bool),∃VB,v=bJ ms.length∧aE w [bm g #[.slice fa fn fc,.slice ba bn bc,.slice ma mn mc,v3,.slice wa wn wc] 247,aj (aw .i64) (.slice ba bn bc) 3 bl,aj aW (.slice ma mn mc) 25 ms,aC (bh (aw .i64) 3).row ms,aj aW (.slice wa wn wc) 26 wt,aC (bh bu 4).row wt,aj (aw .i64) (.slice la ln lc) 3 l] w' [bm g #[.slice fa fn fc,.slice ba bn bc,.slice VO ((ms++([⟨la,ln,lc,l⟩]:List (LR Int))).length) VN,v3,aG VC Ax VB] 247,aj (aw .i64) (.slice ba bn bc) 3 Ww,aj aW (.slice VO ((ms++([⟨la,ln,lc,l⟩]:List (LR Int))).length) VN) 25 (ms++([⟨la,ln,lc,l⟩]:List (LR Int))),aC (bh (aw .i64) 3).row (ms++([⟨la,ln,lc,l⟩]:List (LR Int))),cg aW 26 VC Ax VB,aC (bh bu 4).row Ax]∧(aeC l fn la ln lc bl ms wt Ww Ax)):=by
 refine uZ hp Tryz.func183 (h:=fun H0=>?_)
 have hmn:mn=ms.length:=(H0.Kc 2 rfl).len
 have hwn:wn=wt.length:=(H0.Kc 4 rfl).len
 have v8:bn=bl.length:=(H0.Kc 1 rfl).len
 have hln:ln=l.length:=(H0.Kc 6 rfl).len
 refine ae 10 (h:=aH (H0.b 0) (k:=ae 10 (h:=aH (H0.b 0) (k:=ae 1 (h:=db aW ([⟨la,ln,lc,l⟩]:List (LR Int)) H0 (k:=fun w1 H1=>?_))))))
 refine aR 0 rfl (dQ (T:=aW) (xs:=ms) (ys:=([⟨la,ln,lc,l⟩]:List (LR Int))) rfl Tryz.underlying198 Hd rfl rfl rfl (H1.rt 2).len (H1.ow 2) (H1.rt 7) dk dk fun a1 c1 w2 u2=>?_)
 have H2:=((H1.un 2 u2).drop 7).no
 have H3:Uu6x2:=(aA.kC (f:=(bh (aw .i64) 3).row) (⟨la,ln,lc,l⟩:(LR Int)) H2 3 6 rfl rfl rfl).re rfl
 refine aU 2 (h:=jA H3 0 (k:=fun w3 H4=>eI 3 H4 (h:=fun w4 H5=>cP 4 4 (H5.b 0) (D:=fun _ hC=>aH hC) (h:=cP 3 8 (H5.b 0) (D:=fun _ hC=>aH hC) (h:=?_)))))
 refine vQ 1 10 ⟨_,_,_,rfl,rfl,rfl,rfl,rfl,rfl⟩ (iE fn false (T:=bu) rfl Tryz.underlying26 Tg rfl rfl rfl rfl JS JS fun w5 u4=>?_)
 have H6:=H5.nw u4
 refine ⟨⟨(H6.b 0),trivial,trivial,trivial,trivial,trivial⟩,?_⟩
 refine c7 0 11 (D:=db aW ([⟨(some ⟨w4.heap.size,0,none⟩),(List.replicate fn false).length,fn,List.replicate fn false⟩]:List (LR Bool)) H6 (k:=fun w6 H7=>?_))
 refine ⟨⟨(H7.b 0),trivial,trivial,trivial,trivial,trivial⟩,?_⟩
 refine vQ 0 12 ⟨_,_,_,rfl,rfl,rfl,rfl,rfl,rfl⟩ (dQ (T:=aW) (xs:=wt) (ys:=([⟨(some ⟨w4.heap.size,0,none⟩),(List.replicate fn false).length,fn,List.replicate fn false⟩]:List (LR Bool))) rfl Tryz.underlying38 afM rfl rfl rfl (H7.rt 4).len (H7.ow 4) (H7.rt 9) JS JS fun a2 c2 w7 u6=>?_)
 have H8:=((H7.un 4 u6).drop 9).no
 have H9:Uu6x4:=(aA.kC (f:=(bh bu 4).row) (⟨(some ⟨w4.heap.size,0,none⟩),(List.replicate fn false).length,fn,List.replicate fn false⟩:(LR Bool)) H8 5 8 rfl rfl rfl).re rfl
 refine ⟨⟨trivial,trivial⟩,?_⟩
 refine c7 2 15 (D:=jA H9 0 (k:=fun w8 bO=>?_))
 refine ⟨trivial,?_⟩
 refine cG 2 [5,4,0,1] (h:=?_)
 have hll:=bH.le (show bH (aw .i64) w8 (.slice la ln lc) l from (ga.own (bO.cB 3 rfl)) ⟨la,ln,lc,l⟩ (by simp))
 have bR:=bO.ps [1,0,2,3,4,5]
 refine cY 9 [40,39,38,5,4,0] (fun B R L m e v=>∃k,∃bq:List Int,e=(40,bJ k)::B∧aA w L v ([aj (aw .i64) (.slice ba bn bc) 3 bq]::R)∧(k≤l.length)∧(Vz l ((mn:Nat):Int) bl bq k)∧m=l.length-k) (i:=⟨0,bl,rfl,bR,om,(by exact Vz.start _ _ _),rfl⟩) (h:=?_)
 rintro m1 Γ1 w9 ⟨k,bq,rfl,cm,hk,hq,rfl⟩
 have IC:=hq.len
 have hll:=bH.le (show bH (aw .i64) w9 (.slice la ln lc) l from (ga.own (cm.cB 3 rfl)) ⟨la,ln,lc,l⟩ (by simp))
 refine aL 6 (fun Ji=>?_) fun Ji=>?_
 have hll:=bH.le (show bH (aw .i64) w9 (.slice la ln lc) l from (ga.own (cm.cB 3 rfl)) ⟨la,ln,lc,l⟩ (by simp))
 refine ae 6 (h:=bU k (show bH (aw .i64) w9 (.slice la ln lc) l from (ga.own (cm.cB 3 rfl)) ⟨la,ln,lc,l⟩ (by simp)) (k:=ae 0 (h:=cn (show bH (aw .i64) w9 (.slice la ln lc) l from (ga.own (cm.cB 3 rfl)) ⟨la,ln,lc,l⟩ (by simp)) (k:=?_))))
 have hxb:=DH (l.getD k 0) (au oz)
 refine ae 7 (h:=aH (cm.b 1) (k:=ae 2 (h:=bU ((l.getD k 0).toNat) (cm.rt 0) (cN:=oz) (k:=aU 0 (h:=tH ((mn:Nat):Int) cm 0 (k:=fun gK cW=>?_))))))
 have hll:=bH.le (show bH (aw .i64) gK (.slice la ln lc) l from (ga.own (cW.cB 3 rfl)) ⟨la,ln,lc,l⟩ (by simp))
 exact ae 4 (h:=aX (k:=b6 2 (h:=by exact ⟨k+1,bq.set ((l.getD k 0).toNat) ((mn:Nat):Int),rfl,cW,om,(by exact hq.step oz hxb),rfl⟩)))
 exact bE 9 (h:=⟨_,a1,c1,a2,wt++([⟨(some ⟨w4.heap.size,0,none⟩),(List.replicate fn false).length,fn,List.replicate fn false⟩]:List (LR Bool)),c2,(by rw [hmn]),(cm.se [1,0,2,3,4,5]),⟨hq.len,by rw [←hmn];exact hq.fin oz,by simp,fun i hi=>np hi,by rw [n6]⟩⟩)
end Go.Proofs.YtpbgmkhmdbchpaaGreatDoor
