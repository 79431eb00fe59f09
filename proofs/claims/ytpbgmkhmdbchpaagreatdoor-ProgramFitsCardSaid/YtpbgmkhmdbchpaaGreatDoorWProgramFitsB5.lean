/- The walks of functions, printed by wip/tools/gw.py. -/
import Derived.Test.YtpbgmkhmdbchpaaGreatDoorWProgramFitsB4
import Derived.Test.YtpbgmkhmdbchpaaGreatDoorRows
import Derived.OpenShut
import Derived.LaidMore
import Derived.LaidLaws
import Derived.MakeChecks
import Derived.Stop.Joined
import Derived.Lay
import Derived.Lib.LaidTab
import Derived.Shelf.Vars
import Derived.HandedShaped
set_option linter.unusedVariables false
set_option linter.unusedSimpArgs false
set_option linter.unusedSectionVars false
set_option maxRecDepth 20000
namespace Go.Proofs.YtpbgmkhmdbchpaaGreatDoor
open Go Go.Sx
theorem Lj (toa:aP) (to:List Int) (toc:Nat) (ton:Nat) (w:World) (ZV:bz (aw .i64) w (.slice toa ton toc) to) (hl:to.length≤1000000):
 Calls Tryz.prog 178 #[.slice toa ton toc] w (aX fun v w'=>v= .string (Jz to)∧ax w [] w' []):=by
 obtain rfl:ton=to.length:=ZV.len
 have abS:=ZV.le
 refine cH Tryz.func178 (h:=fun H0=>ab 9 (h:=Ha (k:=?_)))
 refine aN 0 rfl (OR (2*to.length) (T:=(aw .u8)) rfl Tryz.underlying232 sz5 rfl rfl rfl oz oz fun w1 u1=>?_)
 have H1:=H0.nw u1
 refine dA 12 [12,3,11,10,2] (fun B R L m e v=>∃k,∃q:List Int,∃qa qc,e=(12,b7 k)::(3,.slice qa q.length qc)::B∧av w L v ([ag (aw .u8) (.slice qa q.length qc) 5 q]::R)∧(k≤to.length)∧(q=uf (to.take k))∧(q.length=2*k)∧m=to.length-k) (i:=⟨0,([]:List Int),(some ⟨w.heap.size,0,none⟩),2*to.length,rfl,H1,om,rfl,rfl,rfl⟩) (h:=?_)
 rintro m1 Γ1 w2 ⟨k,q,qa,qc,rfl,H2,hk,hq,RI,rfl⟩
 refine aC 6 (fun AQ=>?_) fun AQ=>?_
 refine ab 6 (h:=cg k (ZV.at H2) (k:=ab 0 (h:=cI (ZV.at H2) (k:=?_))))
 refine aN 6 rfl (No rfl rfl oz ?_)
 refine aN 0 rfl (FT Tryz.underlying3 Tryz.underlying5 rfl ?_)
 refine aN 1 rfl (FT Tryz.underlying3 Tryz.underlying5 rfl (ab 0 (h:=dL (aw .u8) [IntKind.u8.wrap ((to.getD k 0).fdiv (2^(min (8:Int).toNat 64))),IntKind.u8.wrap (to.getD k 0)] H2 (k:=fun w3 H3=>ab 0 (h:=kJ H3 0 (H3.rt 1) (hb:=(by simp only [List.length_cons,List.length_nil];omega)) (kW:=(by simp only [List.length_cons,List.length_nil];omega)) (k:=fun a1 c1 w4 Gk=>?_))))))
 have H4:=(Gk.drop 1).no
 exact ab 5 (h:=aV (k:=cm 2 (h:=by exact ⟨k+1,q++[IntKind.u8.wrap ((to.getD k 0).fdiv (2^(min (8:Int).toNat 64))),IntKind.u8.wrap (to.getD k 0)],a1,c1,rfl,(H4.re rfl),om,(by rw [hq];exact JA oz),(by rw [List.length_append,RI];simp only [List.length_cons,List.length_nil];omega),rfl⟩)))
 exact aN 5 rfl (FU Tryz.underlying232 Tryz.underlying5 Tryz.underlying9 rfl (H2.rt 0) (bE 4 (h:=⟨(by rw [hq,List.take_of_length_le oz];rfl),H2.af⟩)))
theorem vb (g:Nat) (ir:aP) (st:List aR) (iq:Nat) (s0:Int) (f0:Int) (az:Int) (EK:aP) (ps:List (LR Int)) (EI:Nat) (mg:Nat) (mm:List (ByteArray×Int)) (xa:aP) (xc:Nat) (x:List Bool) (os:List (List Bool)) (w:World) (hp:Hp w [aQ g #[aH ir st iq,ai s0,ai f0,ai az,aH EK ps EI,.map (some mg)] 200,cE aK 25 EK ps EI,ao (aG (aw .i64) 3).row ps,dU (fun a:ByteArray=> .string a) (fun a:Int=>ai a) mg mm,cE (aw .i64) 3 xa (cq x) xc]) (XE:ps.map LR.xs=os.map cq) (hK:s7 st.length os mm) (hx:x.length=st.length) (Fx:os.length≤1000000):
 Calls Tryz.prog 154 #[.pointer (some ⟨g,0,none⟩),aH xa (cq x) xc] w (aX fun v w'=>∃Ov:List (LR Int),∃LH LG,∃Xi:List (ByteArray×Int),v=b7 (ix x (eg os x))∧ax w [aQ g #[aH ir st iq,ai s0,ai f0,ai az,aH EK ps EI,.map (some mg)] 200,cE aK 25 EK ps EI,ao (aG (aw .i64) 3).row ps,dU (fun a:ByteArray=> .string a) (fun a:Int=>ai a) mg mm,cE (aw .i64) 3 xa (cq x) xc] w' [aQ g #[aH ir st iq,ai s0,ai f0,ai az,aH LH Ov LG,.map (some mg)] 200,cE aK 25 LH Ov LG,ao (aG (aw .i64) 3).row Ov,dU (fun a:ByteArray=> .string a) (fun a:Int=>ai a) mg Xi]∧(Ov.map LR.xs=(eg os x).map cq)∧(s7 st.length (eg os x) Xi)):=by
 have OB:ps.length=os.length:=(by have h9:=congrArg List.length XE;simpa using h9)
 have PF:=kp x
 have hKl:=hK.1
 refine tW hp Tryz.func154 (h:=fun H0=>ab 8 (h:=aA (c:=Lj xa (cq x) xc ((cq x).length) w (H0.rt 4) oz) (k:=?_)))
 rintro _ w1 ⟨rfl,u1⟩
 have H1:=H0.call u1
 refine ab 9 (h:=aM (H1.b 0) (k:=?_))
 refine aN 1 rfl (AD (ek:=(fun a:ByteArray=> .string a)) (fy:=(fun a:Int=>ai a)) (Jz (cq x)) 0 Xp Tryz.underlying197 xv rfl rfl (H1.oh 3 rfl) (dv 12 (fun rO=>?_) fun rO=>?_))
 obtain ⟨acK,XT⟩:=hK.some hx rO
 refine bE 7 (h:=?_)
 have e1:eg os x=os:=if_pos acK
 rw [e1]
 exact ⟨ps,EK,EI,_,(by first|(rw [←XT];rfl)|(exact congrArg _ XT)),(H1.se [0,1,2,3]),XE,hK⟩
 obtain ⟨XU,acL⟩:=hK.none hx rO
 refine fI 3 H1 (h:=fun w2 H2=>c7 3 3 (H2.b 0) (D:=fun _ hC=>aM hC) (h:=c7 4 8 (H2.b 0) (D:=fun _ hC=>aM hC) (h:=?_)))
 refine uR 1 10 ⟨_,_,_,rfl,rfl,rfl,rfl,rfl,rfl⟩ (gN (ek:=(fun a:ByteArray=> .string a)) (fy:=(fun a:Int=>ai a)) (Jz (cq x)) ((ps.length:Nat):Int) Xp Tryz.underlying197 rfl rfl rfl (H2.dr 3) fun w3 u2=>?_)
 have H3:=H2.un 3 u2
 refine ⟨trivial,?_⟩
 refine ab 8 (h:=aM (H3.b 0) (k:=ab 1 (h:=dL aK ([⟨xa,(cq x).length,xc,cq x⟩]:List (LR Int)) H3 (k:=fun w4 H4=>ab 0 (h:=kJ H4 1 (H4.rt 5) (hb:=dD) (kW:=dD) (k:=fun a1 c1 w5 ZM=>?_))))))
 have H5:=(ZM.drop 5).no
 have H6:Uu4x2:=(av.ng (f:=(aG (aw .i64) 3).row) (⟨xa,(cq x).length,xc,cq x⟩:(LR Int)) H5 2 4 rfl rfl rfl).re rfl
 refine aY 2 (h:=jV H6 0 (k:=fun w6 H7=>cv 2 [4,0] (h:=ab 5 (h:=aM (H7.b 0) (k:=ab 1 (h:=kB (h1:=dD) (h2:=dD) (k:=bE 4 (h:=?_))))))))
 have e1:eg os x=os++[x]:=if_neg XU
 have e2:ix x (eg os x)=os.length:=by rw [PC,if_neg XU]
 rw [e2,e1]
 exact ⟨ps++([⟨xa,(cq x).length,xc,cq x⟩]:List (LR Int)),a1,c1,_,Rb,(H7.se [0,1,2,3]),(by rw [List.map_append,List.map_append,XE];rfl),(by rw [OB];exact acL)⟩
theorem OZ (g:Nat) (ir:aP) (st:List aR) (iq:Nat) (s0:Int) (f0:Int) (az:Int) (EK:aP) (EI:Nat) (mg:Nat) (psn:Nat) (Bj:aP) (xs:List Int) (Bi:Nat) (Ec:Nat) (sym:Int) (x:List Bool) (w:World) (jD:cP br w ir st iq) (vh:bz (aw .i64) w (.slice Bj Ec Bi) xs) (bg:w.heap[g]?=some (.cells #[aH ir st iq,ai s0,ai f0,ai az,.slice EK psn EI,.map (some mg)] 200 (0,0))) (hN:rU st s0 f0) (hx:x.length=st.length) (JH:xs=cq x) (MH:0≤sym):
 Calls Tryz.prog 156 #[.pointer (some ⟨g,0,none⟩),.slice Bj Ec Bi,ai sym] w (aX fun v w'=>∃a2,∃c2:Nat,∃o2:List Bool,v=aH a2 (cq o2) c2∧ax w [] w' [cE (aw .i64) 3 a2 (cq o2) c2]∧(o2=jm st x sym)∧(o2.length=st.length)):=by
 obtain rfl:Ec=xs.length:=vh.len
 have hl:=hN.len
 have PF:xs.length≤600:=(by rw [JH];have h9:=kp x;omega)
 have qh:=jD.le
 have Fj:=vh.le
 refine cH Tryz.func156 (h:=fun H0=>aC 12 (fun QJ=>?_) fun QJ=>?_)
 refine ab 5 (h:=cd (H0.nv.obj bg (by simp)) (k:=ab 2 (h:=jd (k:=ab 0 (h:=aA (c:=E5 ir st iq _ _ Bj xs Bi xs.length _ sym.toNat w (jD.at H0) (vh.at H0) oz hN oz (fun t ht=>by rw [JH] at ht;have h9:=ko ht;rw [hx] at h9;exact h9) oz) (k:=?_))))))
 rintro _ w1 ⟨bH,b6,n9,rfl,u1,xK⟩
 have H1:=H0.ns u1
 exact bE 4 (h:=⟨bH,b6,n9,rfl,H1.kM 0,(KW hN QJ (by rw [←JH];exact xK) hx).symm,xK.len⟩)
 refine ab 7 (h:=cd (H0.nv.obj bg (by simp)) (k:=ab 2 (h:=aA (c:=tm ir st iq _ _ Bj xs Bi xs.length _ w (jD.at H0) (vh.at H0) hN oz (fun t ht=>by rw [JH] at ht;have h9:=ko ht;rw [hx] at h9;exact h9)) (k:=?_))))
 rintro _ w2 ⟨gF,iO,Cr,rfl,u2,TO⟩
 have H2:=H0.ns u2
 exact bE 4 (h:=⟨gF,iO,Cr,rfl,H2.kM 0,(IE hN QJ (by rw [←JH];exact TO)).symm,TO.len⟩)
theorem Li (g:Nat) (ir:aP) (st:List aR) (iq:Nat) (s0:Int) (f0:Int) (az:Int) (EK:aP) (ps:List (LR Int)) (EI:Nat) (mg:Nat) (mm:List (ByteArray×Int)) (fsa:aP) (fs:List Int) (fsc:Nat) (w:World) (hp:Hp w [aQ g #[.slice ir st.length iq,ai s0,ai f0,ai az,.slice EK ps.length EI,.map (some mg)] 200,ag aK (.slice EK ps.length EI) 25 ps,ao (aG (aw .i64) 3).row ps,dU (fun a:ByteArray=> .string a) (fun a:Int=>ai a) mg mm,ag (aw .i64) (.slice fsa fs.length fsc) 3 fs]) (jD:bz br w (.slice ir st.length iq) st) (hN:rU st s0 f0) (XE:ps=[]) (hmm:mm=[]) (VJ:az≤1024) (CU:fs.length≤259∧∀t,t∈fs→0≤t) (dq:eG (.slice ir st.length iq) [aQ g #[.slice ir st.length iq,ai s0,ai f0,ai az,.slice EK ps.length EI,.map (some mg)] 200,ag aK (.slice EK ps.length EI) 25 ps,ao (aG (aw .i64) 3).row ps,dU (fun a:ByteArray=> .string a) (fun a:Int=>ai a) mg mm,ag (aw .i64) (.slice fsa fs.length fsc) 3 fs]):
 Calls Tryz.prog 112 #[.pointer (some ⟨g,0,none⟩),.slice fsa fs.length fsc] w (aX fun v w'=>∃a2 c2,∃Ow:List Int,∃ZZ:List (List Bool),∃Ov:List (LR Int),∃LH LG,∃Xi:List (ByteArray×Int),v= .slice a2 Ow.length c2∧ax w [aQ g #[.slice ir st.length iq,ai s0,ai f0,ai az,.slice EK ps.length EI,.map (some mg)] 200,ag aK (.slice EK ps.length EI) 25 ps,ao (aG (aw .i64) 3).row ps,dU (fun a:ByteArray=> .string a) (fun a:Int=>ai a) mg mm,ag (aw .i64) (.slice fsa fs.length fsc) 3 fs] w' [aQ g #[.slice ir st.length iq,ai s0,ai f0,ai az,.slice LH Ov.length LG,.map (some mg)] 200,ag aK (.slice LH Ov.length LG) 25 Ov,ao (aG (aw .i64) 3).row Ov,dU (fun a:ByteArray=> .string a) (fun a:Int=>ai a) mg Xi,ag (aw .i64) (.slice a2 Ow.length c2) 3 Ow]∧(Ov.map LR.xs=ZZ.map cq)∧(s7 st.length ZZ Xi)∧(xT (jm st) [] fs (j7 st [s0] 0) az (ZZ,Ow))∧(ZZ.length≤2000)):=by
 have hl:=hN.len
 have hs:=hN.s
 have qh:=jD.le
 refine tW hp Tryz.func112 (h:=fun H0=>fI 11 H0 (h:=fun w1 H1=>c7 4 4 (H1.b 0) (D:=fun _ hC=>cd hC) (h:=c7 4 9 (H1.b 0) (D:=fun _ hC=>aM hC) (h:=dj 0 10 (D:=dL (aw .i64) [s0] H1 (k:=fun w2 H2=>?_))))))
 refine ⟨⟨(H2.b 0),trivial,trivial,trivial,trivial,trivial⟩,?_⟩
 refine dj 0 11 (D:=aA (c:=tm ir st iq _ _ _ [s0] _ ([s0].length) _ w2 (jD.keep H2.keep dq) (H2.rt 5) hN (by simp) (by intro t ht;simp only [List.mem_singleton] at ht;subst ht;exact hs)) (k:=?_))
 rintro _ w3 ⟨bH,b6,n9,rfl,u2,xK⟩
 have H3:=H2.ns u2
 refine ⟨⟨trivial,trivial⟩,?_⟩
 have H4:av _ _ _ [[_,_,_,_],[_],[_],[_]]:=av.of (ax.iW H3 (l:=[0,1,2,3,4,5,6]) rfl rfl) rfl
 refine dj 0 12 (D:=aA (c:=vb _ ir st iq s0 f0 az EK ps EI mg mm bH _ n9 ([]:List (List Bool)) w3 (H4.CQ 0 3 rfl rfl rfl) (by rw [XE];rfl) (by rw [hmm];exact s7.start hN.len) xK.len (by simp)) (k:=?_))
 rintro _ w4 ⟨bx,sq,so,Hb,rfl,u3,rz,FE⟩
 have H5:av _ _ _ [[_,_,_,_],[_],[_],[]]:=(H4.fE (A':=[aQ g #[.slice ir st.length iq,ai s0,ai f0,ai az,.slice sq bx.length so,.map (some mg)] 200,ag aK (.slice sq bx.length so) 25 bx,ao (aG (aw .i64) 3).row bx,dU (fun a:ByteArray=> .string a) (fun a:Int=>ai a) mg Hb]) (B':=[]) (C:=[]) 0 3 rfl rfl rfl u3).re rfl
 refine ⟨trivial,?_⟩
 have H6:Uu6x1:=H5.re rfl
 have H7:=H6.nr (aw .i64) 3
 have H8:=H7.ps [0,1,2,3,6,4,5]
 refine dA 9 [6,5,4,0,1] (fun B R L m e v=>∃at9,∃os:List (List Bool),∃nx:List Int,∃Vx Vw,∃pq:List (LR Int),∃Vv Vu,∃Vy:List (ByteArray×Int),e=(6,b7 at9)::(5,.slice Vx nx.length Vw)::B∧av w L v ([aQ g #[.slice ir st.length iq,ai s0,ai f0,ai az,.slice Vv pq.length Vu,.map (some mg)] 200]::[ag aK (.slice Vv pq.length Vu) 25 pq]::[ao (aG (aw .i64) 3).row pq]::[dU (fun a:ByteArray=> .string a) (fun a:Int=>ai a) mg Vy]::[ag (aw .i64) (.slice Vx nx.length Vw) 3 nx]::R)∧(dX (jm st) [] fs (j7 st [s0] 0) at9=(os,nx))∧(Ks st fs (j7 st [s0] 0) az at9)∧(at9≤1024)∧(os.length≤1300)∧(nx.length=at9*fs.length)∧(pq.map LR.xs=os.map cq)∧(s7 st.length os Vy)∧m=(az+1-(at9:Int)).toNat) (i:=⟨0,[n9],([]:List Int),none,0,bx,sq,so,Hb,rfl,H8,(by show ([(j7 st [s0] 0)],([]:List Int))=_;rw [AN hN xK (by intro t ht;simp only [List.mem_singleton] at ht;omega)]),(by intro q hq;omega),oz,(by simp),(by simp),(by rw [←DM n9];exact rz),(by rw [←DM n9];exact FE),rfl⟩) (h:=?_)
 rintro m1 Γ1 w5 ⟨at9,os,nx,Vx,Vw,pq,Vv,Vu,Vy,rfl,H9,hsx,hcd,r9,Tv,PR,Hr,P6,rfl⟩
 have ahK:pq.length=os.length:=by have h9:=congrArg List.length Hr;simpa using h9
 have hnb:=Pq r9 CU.1
 refine fI 2 H9 (h:=fun w6 bW=>c7 4 4 (bW.b 0) (D:=fun _ hC=>aM hC) (h:=EG 3 29 (fun g50=>?_) fun g50=>?_))
 refine c7 3 11 (bW.b 0) (D:=fun _ hC=>aM hC) (h:=c7 4 16 (bW.b 0) (D:=fun _ hC=>aM hC) (h:=aC 4 (fun UJ=>?_) fun UJ=>?_))
 refine dA 12 [45,5,44,43,39,38,37,36,35,34,33,32,31,30,6,4,0,1] (fun B R L m e v=>∃c9,∃vw:List (List Bool),∃D0:List Int,∃Pj Ph,∃pr:List (LR Int),∃Vt Vs,∃mpr:List (ByteArray×Int),e=(45,b7 c9)::(5,.slice Pj D0.length Ph)::B∧av w L v ([aQ g #[.slice ir st.length iq,ai s0,ai f0,ai az,.slice Vt pr.length Vs,.map (some mg)] 200]::[ag aK (.slice Vt pr.length Vs) 25 pr]::[ao (aG (aw .i64) 3).row pr]::[dU (fun a:ByteArray=> .string a) (fun a:Int=>ai a) mg mpr]::[ag (aw .i64) (.slice Pj D0.length Ph) 3 D0]::R)∧(c9≤fs.length)∧(kL (jm st) [] at9 (fs.take c9) (os,nx)=(vw,D0))∧(pr.map LR.xs=vw.map cq)∧(s7 st.length vw mpr)∧m=fs.length-c9) (i:=⟨0,os,nx,Vx,Vw,pq,Vv,Vu,Vy,rfl,bW,oz,rfl,(by exact Hr),(by exact P6),rfl⟩) (h:=?_)
 rintro m2 Γ2 w7 ⟨c9,vw,D0,Pj,Ph,pr,Vt,Vs,mpr,rfl,bP,hc9,hrx,Hq,TS,rfl⟩
 have ahJ:pr.length=vw.length:=by have h9:=congrArg List.length Hq;simpa using h9
 have hrf:=Ls P6.2.1 hrx hc9
 refine aC 6 (fun Du=>?_) fun Du=>?_
 refine ab 6 (h:=cg c9 (bP.rt 5) (k:=ab 0 (h:=cI (bP.rt 5) (k:=ab 10 (h:=aM (bP.b 0) (k:=ab 1 (h:=cg at9 (bP.rt 1) (k:=ab 0 (h:=cI (bP.rt 1) (k:=ab 1 (h:=aA (c:=OZ _ ir st iq s0 f0 az Vt Vs mg pr.length _ ((pr.getD at9 ae).xs) _ ((pr.getD at9 ae).n) _ (vw.getD at9 []) w7 (jD.keep bP.keep dq) (show bz (aw .i64) w7 (.slice ((pr.getD at9 ae).a) ((pr.getD at9 ae).n) ((pr.getD at9 ae).c)) ((pr.getD at9 ae).xs) from (eK.own (bP.bU 2 rfl)).get ae at9 oz) (bP.b 0) hN (TS.2.2.1 _ (ak oz)) (vq Hq oz) (CU.2 _ (ak oz))) (k:=?_))))))))))))
 rintro _ w8 ⟨gF,iO,Cr,rfl,u4,acd,PN⟩
 have ck:Uu8:=(bP.iZ u4).re rfl
 have cU:av _ _ _ [[_,_,_,_],[_],[_],[_],[_]]:=av.of (ax.iW ck (l:=[0,1,2,3,4,5,6,7]) rfl rfl) rfl
 refine ab 0 (h:=aA (c:=vb _ ir st iq s0 f0 az Vt pr Vs mg mpr gF _ Cr vw w8 (cU.CQ 0 4 rfl rfl rfl) Hq TS PN oz) (k:=?_))
 rintro _ w9 ⟨B5,EJ,EH,Rs,rfl,u5,XD,ac9⟩
 have cN:av _ _ _ [[_,_,_,_],[_],[_],[_],[]]:=(cU.fE (A':=[aQ g #[.slice ir st.length iq,ai s0,ai f0,ai az,.slice EJ B5.length EH,.map (some mg)] 200,ag aK (.slice EJ B5.length EH) 25 B5,ao (aG (aw .i64) 3).row B5,dU (fun a:ByteArray=> .string a) (fun a:Int=>ai a) mg Rs]) (B':=[]) (C:=[]) 0 4 rfl rfl rfl u5).re rfl
 refine ab 0 (h:=dL (aw .i64) [((ix Cr (eg vw Cr):Nat):Int)] cN (k:=fun iy dt=>ab 0 (h:=kJ dt 1 (dt.rt 5) (hb:=dD) (kW:=dD) (k:=fun a1 c1 gS Oi=>?_))))
 have dw:=(Oi.drop 5).no
 refine cv 4 [5,45,44,43,39,38,37,36,35,34,33,32,31,30,6,4,0,1] (h:=ab 1 (h:=aV (k:=?_)))
 have fH:Uu7x2:=dw.re rfl
 exact cm 2 (h:=by exact ⟨c9+1,eg vw Cr,D0++[((ix Cr (eg vw Cr):Nat):Int)],a1,c1,B5,EJ,EH,Rs,rfl,(fH.re rfl),oz,(by exact Lr hrx oz acd),(by exact XD),(by exact ac9),rfl⟩)
 exact ab 5 (h:=aV (k:=cm 2 (h:=by exact ⟨at9+1,vw,D0,Pj,Ph,pr,Vt,Vs,mpr,rfl,bP,(by exact Lf hsx (by rw [show fs.length=c9 by omega];exact hrx)),(by exact hcd.next hsx oz oz),oz,oz,(by rw [Nat.succ_mul];omega),(by exact Hq),(by exact TS),rfl⟩)))
 exact bE 9 (h:=⟨Vx,Vw,nx,os,pq,Vv,Vu,Vy,rfl,(bW.se [0,1,2,3,4]),Hr,P6,(hcd.fin hsx oz),oz⟩)
 exact bE 23 (h:=⟨Vx,Vw,nx,os,pq,Vv,Vu,Vy,rfl,(bW.se [0,1,2,3,4]),Hr,P6,(hcd.fin hsx oz),oz⟩)
theorem Es (ir:aP) (st:List aR) (iq:Nat) (s0:Int) (f0:Int) (az:Int) (w:World) (jD:bz br w (.slice ir st.length iq) st) (rT:bz eM w (.slice (some ⟨0,0,none⟩) qu.length 64) qu) (hN:rU st s0 f0) (VJ:az≤1024):
 Calls Tryz.prog 84 #[.agg #[.slice ir st.length iq,ai s0,ai f0],ai az] w (aX fun v w'=>∃d:au,∃er ca,∃cc na,∃nc ba bc,v= .tuple #[.agg #[.slice ca d.cls.length cc,ai d.width,ai d.start,.slice na d.next.length nc,.slice ba d.acc.length bc],ai er]∧ax w [] w' [ag (aw .i64) (.slice ca d.cls.length cc) 3 d.cls,ag (aw .i64) (.slice na d.next.length nc) 3 d.next,ag bC (.slice ba d.acc.length bc) 4 d.acc]∧(pG st s0 f0 az d er)):=by
 have hl:=hN.len
 have hs:=hN.s
 have hf:=hN.f
 have qh:=jD.le
 have jC:=rT.le
 refine cH Tryz.func84 (h:=fun H0=>ab 2 (h:=jf H0 (k:=fun w1 H1=>ab 0 (h:=dB H1 (k:=fun w2 H2=>ab 5 (h:=cd (H2.b 0) (k:=ab 0 (h:=aA (c:=Ds ir st iq _ _ w2 (jD.at H2) (rT.at H2) hN) (k:=?_)))))))))
 rintro _ w3 ⟨bH,b6,NM,V8,rfl,u3,P2⟩
 have H3:=H2.ns u3
 have hcr:=P2.kC
 have pU:=kZ P2
 refine aC 14 (fun Y6=>?_) fun Y6=>?_
 exfalso;omega
 refine ab 4 (h:=cd (H3.b 0) (k:=?_))
 refine aN 1 rfl (o8 (fun a:ByteArray=> .string a) (fun a:Int=>ai a) fun w4 u4=>?_)
 have H4:=H3.nw u4
 refine ab 0 (h:=cu (k:=ab 0 (h:=jf H4 (k:=fun w5 H5=>ab 8 (h:=aA (c:=wu bH NM _ _ w5 (H5.rt 2)) (k:=?_))))))
 rintro _ w6 ⟨gF,iO,rfl,u6⟩
 have H6:=H5.ns u6
 have H7:=H6.nr (aK:Ty (LR Int)) 25
 have H8:=H7.nw (ax.mF (aG (aw .i64) 3).row w6)
 have H9:av _ _ _ [[_,_,_,_],[_],[_],[_],[_]]:=av.of (ax.iW H8 (l:=[4,6,7,3,0,1,2,5]) rfl rfl) rfl
 refine ab 0 (h:=aA (c:=Li _ ir st iq s0 f0 az none ([]:List (LR Int)) 0 w3.heap.size ([]:List (ByteArray×Int)) gF (aE NM V8) _ w6 (H9.CQ 0 4 rfl rfl rfl) (jD.at H9) hN rfl rfl VJ ⟨by omega,fun t ht=>(pU.2 t ht).1⟩ (eG.two (eG.of (eG.nil _) jD oz H9 0 rfl) (eG.of (eG.nil _) jD oz H9 4 rfl))) (k:=?_))
 rintro _ w7 ⟨s4,wQ,L4,ki,bx,sq,so,Hb,rfl,u7,rz,FE,hE1,PN⟩
 have bW:av _ _ _ [[_,_,_,_],[_],[_],[_],[_]]:=(H9.fE (A':=[aQ w4.heap.size #[.slice ir st.length iq,ai s0,ai f0,ai az,.slice sq bx.length so,.map (some w3.heap.size)] 200,ag aK (.slice sq bx.length so) 25 bx,ao (aG (aw .i64) 3).row bx,dU (fun a:ByteArray=> .string a) (fun a:Int=>ai a) w3.heap.size Hb]) (B':=[ag (aw .i64) (.slice s4 L4.length wQ) 3 L4]) (C:=[]) 0 4 rfl rfl rfl u7).re rfl
 have OB:bx.length=ki.length:=by have h9:=congrArg List.length rz;simpa using h9
 refine ab 9 (h:=aM ((bW.dr 0).aQ (List.mem_of_getElem? (i:=0) rfl)) (k:=cv 5 [39,9,8,7,6,5,4,2] (h:=aC 0 (fun c66=>?_) fun c66=>?_)))
 refine ab 2 (h:=cu (k:=aY 0 (h:=bL bW 2 (k:=fun w8 bP=>gG 4 (h1:=cS (bP.b 2)) (h2:=dc) (h:=?_)))))
 have ck:=bP.nr (aw .i64) 3
 have cU:=ck.nr (aw .i64) 3
 have cN:=cU.nr bC 4
 exact ⟨⟨[],0,0,[],[]⟩,5,none,0,none,0,none,0,rfl,(cN.se [8,9,10]),⟨_,_,_,_,P2,hE1,.inr ⟨by omega,rfl,rfl⟩⟩⟩
 refine ab 7 (h:=aM ((bW.dr 0).aQ (List.mem_of_getElem? (i:=0) rfl)) (k:=?_))
 refine aN 1 rfl (jo bx.length false (T:=bC) rfl Tryz.underlying26 Wl rfl rfl rfl rfl oz oz fun w9 u9=>?_)
 have dt:=bW.nw u9
 refine ab 9 (h:=aM ((dt.dr 0).aQ (List.mem_of_getElem? (i:=0) rfl)) (k:=?_))
 have dw:=dt.sn
 have fH:=dw.ps [8,0,1,2,3,4,5,6,7]
 refine dA 5 [52,51,50,10,9,7,6,5,4,2] (fun B R L m e v=>∃k,∃u:List Bool,e=(52,b7 k)::B∧av w L v ([ag bC (.slice (some ⟨w7.heap.size,0,none⟩) ((List.replicate bx.length false).length) bx.length) 4 u]::R)∧(k≤ki.length)∧(Ba ki f0 u k)∧m=ki.length-k) (i:=⟨0,List.replicate bx.length false,rfl,fH,oz,(by exact Ba.start _ _ OB),rfl⟩) (h:=?_)
 rintro m1 Γ1 iy ⟨k,u,rfl,il,hk,hA,rfl⟩
 have PI:=hA.len
 refine aC 6 (fun c70=>?_) fun c70=>?_
 refine ab 7 (h:=cg k (il.rt 2) (k:=ab 0 (h:=cI (il.rt 2) (k:=?_))))
 have hnk:(bx.getD k ae).n=(bx.getD k ae).xs.length:=(show bz (aw .i64) iy (.slice (bx.getD k ae).a (bx.getD k ae).n (bx.getD k ae).c) (bx.getD k ae).xs from (eK.own (il.bU 3 rfl)).get ae k oz).len
 have PR:(bx.getD k ae).xs.length≤1000000:=by rw [vq rz oz];have h9:=kp (ki.getD k []);have h8:=FE.2.2.1 _ (ak (d:=[]) (show k<ki.length by omega));omega
 refine dA 12 [59,58,57,11,52,51,50,10,9,7,6,5,4,2] (fun B R L m e v=>∃j,∃u2:List Bool,e=(59,b7 j)::B∧av w L v ([ag bC (.slice (some ⟨w7.heap.size,0,none⟩) ((List.replicate bx.length false).length) bx.length) 4 u2]::R)∧(j≤(bx.getD k ae).xs.length)∧(Gq ki f0 u2 k (bx.getD k ae).xs j)∧m=(bx.getD k ae).xs.length-j) (i:=⟨0,u,rfl,il,oz,(by exact hA.go _),rfl⟩) (h:=?_)
 rintro m2 Γ2 gS ⟨j,u2,rfl,jh,hj,hJ,rfl⟩
 have ahn:=hJ.len
 have hnk:(bx.getD k ae).n=(bx.getD k ae).xs.length:=(show bz (aw .i64) gS (.slice (bx.getD k ae).a (bx.getD k ae).n (bx.getD k ae).c) (bx.getD k ae).xs from (eK.own (jh.bU 3 rfl)).get ae k oz).len
 have PR:(bx.getD k ae).xs.length≤1000000:=by rw [vq rz oz];have h9:=kp (ki.getD k []);have h8:=FE.2.2.1 _ (ak (d:=[]) (show k<ki.length by omega));omega
 refine aC 6 (fun UH=>?_) fun UH=>?_
 have hnk:(bx.getD k ae).n=(bx.getD k ae).xs.length:=(show bz (aw .i64) gS (.slice (bx.getD k ae).a (bx.getD k ae).n (bx.getD k ae).c) (bx.getD k ae).xs from (eK.own (jh.bU 3 rfl)).get ae k oz).len
 have PR:(bx.getD k ae).xs.length≤1000000:=by rw [vq rz oz];have h9:=kp (ki.getD k []);have h8:=FE.2.2.1 _ (ak (d:=[]) (show k<ki.length by omega));omega
 refine ab 6 (h:=cg j (show bz (aw .i64) gS (.slice ((bx.getD k ae).a) ((bx.getD k ae).n) ((bx.getD k ae).c)) ((bx.getD k ae).xs) from (eK.own (jh.bU 3 rfl)).get ae k oz) (k:=ab 0 (h:=cI (show bz (aw .i64) gS (.slice ((bx.getD k ae).a) ((bx.getD k ae).n) ((bx.getD k ae).c)) ((bx.getD k ae).xs) from (eK.own (jh.bU 3 rfl)).get ae k oz) (k:=ab 8 (h:=cg k (jh.rt 0) (k:=ab 0 (h:=cI (jh.rt 0) (k:=iX 1 69 (fun Yn=>?_) fun Yn=>?_))))))))
 refine ab 5 (h:=cg k (jh.rt 0) (k:=aY 0 (h:=tX true jh 0 (k:=fun jz eH=>cv 3 [73,72,71,70,59,58,57,11,52,51,50,10,9,7,6,5,4,2] (h:=?_)))))
 have hnk:(bx.getD k ae).n=(bx.getD k ae).xs.length:=(show bz (aw .i64) jz (.slice (bx.getD k ae).a (bx.getD k ae).n (bx.getD k ae).c) (bx.getD k ae).xs from (eK.own (eH.bU 3 rfl)).get ae k oz).len
 have PR:(bx.getD k ae).xs.length≤1000000:=by rw [vq rz oz];have h9:=kp (ki.getD k []);have h8:=FE.2.2.1 _ (ak (d:=[]) (show k<ki.length by omega));omega
 exact ab 1 (h:=aV (k:=cm 2 (h:=by exact ⟨j+1,u2.set k true,rfl,eH,oz,(by first|exact hJ.put oz oz (by rw [Yn];rfl)|exact hJ.put oz oz (by rw [Bool.eq_false_iff.2 Yn];rfl)),rfl⟩)))
 refine ab 2 (h:=aM (jh.b 5) (k:=ab 2 (h:=cg k (jh.rt 0) (k:=aY 0 (h:=tX (decide ((((bx.getD k ae).xs).getD j 0)=f0)) jh 0 (k:=fun kK lf=>cv 3 [73,72,71,70,59,58,57,11,52,51,50,10,9,7,6,5,4,2] (h:=?_)))))))
 have hnk:(bx.getD k ae).n=(bx.getD k ae).xs.length:=(show bz (aw .i64) kK (.slice (bx.getD k ae).a (bx.getD k ae).n (bx.getD k ae).c) (bx.getD k ae).xs from (eK.own (lf.bU 3 rfl)).get ae k oz).len
 have PR:(bx.getD k ae).xs.length≤1000000:=by rw [vq rz oz];have h9:=kp (ki.getD k []);have h8:=FE.2.2.1 _ (ak (d:=[]) (show k<ki.length by omega));omega
 exact ab 1 (h:=aV (k:=cm 2 (h:=by exact ⟨j+1,u2.set k (decide ((((bx.getD k ae).xs).getD j 0)=f0)),rfl,lf,oz,(by first|exact hJ.put oz oz (by rw [Yn];rfl)|exact hJ.put oz oz (by rw [Bool.eq_false_iff.2 Yn];rfl)),rfl⟩)))
 exact ab 4 (h:=aV (k:=cm 2 (h:=by exact ⟨k+1,u2,rfl,jh,oz,(by exact hJ.done oz (vq rz oz) hf.1),rfl⟩)))
 refine ab 8 (h:=cu (k:=aY 0 (h:=bL il 6 (k:=fun nH ji=>gG 4 (h1:=cS (ji.b 6)) (h2:=dc) (h:=?_)))))
 have hu9:u.length=(List.replicate bx.length false).length:=by rw [List.length_replicate];omega
 rw [←hu9] at ji
 exact ⟨⟨NM,V8,0,L4,u⟩,0,bH,b6,s4,wQ,(some ⟨w7.heap.size,0,none⟩),bx.length,(by rw [←hu9]),(ji.se [7,8,0]),⟨_,_,_,_,P2,hE1,.inl ⟨by omega,rfl,by rw [←hA.fin oz]⟩⟩⟩
theorem vL (d:au) (jN:aP) (j6:aP) (kG:aP) (jM:Nat) (j5:Nat) (kF:Nat) (bla:aP) (bl:List Int) (blc:Nat) (HZ:aP) (cl:List Int) (HY:Nat) (width:Int) (w:World) (np:cP (aw .i64) w jN d.cls jM) (my:cP (aw .i64) w j6 d.next j5) (nY:cP bC w kG d.acc kF) (SM:cP (aw .i64) w bla bl blc) (rcl:cP (aw .i64) w HZ cl HY) (cB:aD d=true) (Hz:x3 d bl) (KG:bl.length=d.acc.length) (CU:∀j,j<(aE cl width).length→0≤(aE cl width).getD j 0∧(aE cl width).getD j 0<259) (hfw:(aE cl width).length≤259):
 Calls Tryz.prog 117 #[.agg #[aH jN d.cls jM,ai d.width,ai d.start,aH j6 d.next j5,aH kG d.acc kF],aH bla bl blc,aH HZ cl HY,ai width] w (aX fun v w'=>∃na,∃nc:Nat,∃ba,∃bc:Nat,v= .agg #[aH HZ cl HY,ai width,ai 0,aH na ((cz d bl (aE cl width) 4097 0 ([d.start],[])).2) nc,aH ba ((cz d bl (aE cl width) 4097 0 ([d.start],[])).1.map (Km d)) bc]∧ax w [] w' [cE (aw .i64) 3 na ((cz d bl (aE cl width) 4097 0 ([d.start],[])).2) nc,cE bC 4 ba ((cz d bl (aE cl width) 4097 0 ([d.start],[])).1.map (Km d)) bc]):=by
 have Ho:=bh.1 cB
 have mI:=np.le
 have mH:=my.le
 have mJ:=nY.le
 have abY:=SM.le
 have abV:=rcl.le
 refine cH Tryz.func117 (h:=fun H0=>ab 2 (h:=jf H0 (k:=fun w1 H1=>ab 0 (h:=dB H1 (k:=fun w2 H2=>ab 6 (h:=cu (k:=ab 0 (h:=dB H2 (k:=fun w3 H3=>aY 0 (h:=bL H3 2 (k:=fun w4 H4=>?_)))))))))))
 refine aN 4 rfl (o8 (fun a:Int=>ai a) (fun a:Int=>ai a) fun w5 u5=>?_)
 have H5:=H4.nw u5
 refine ab 2 (h:=aM (H5.b 0) (k:=ab 0 (h:=cg d.start.toNat (SM.at H5) (cD:=oz) (k:=ab 0 (h:=cI (SM.at H5) (k:=?_))))))
 refine zO 0 rfl (Nx (ek:=(fun a:Int=>ai a)) (fy:=(fun a:Int=>ai a)) (bl.getD d.start.toNat 0) 0 ug Tryz.underlying258 rfl rfl rfl (H5.dr 3) fun w6 u6=>?_)
 have H6:=H5.un 3 u6
 refine ab 7 (h:=aM (H6.b 0) (k:=ab 0 (h:=dL (aw .i64) [d.start] H6 (k:=fun w7 H7=>ab 7 (h:=aA (c:=wu HZ cl HY _ w7 (rcl.at H7)) (k:=?_))))))
 rintro _ w8 ⟨bH,b6,rfl,u8⟩
 have H8:=H7.ns u8
 have H9:=H8.nr (aw .i64) 3
 have bW:=H9.nr bC 4
 have bP:=bW.sn
 have ck:=bP.ps [2,3,4,6,7,0,1,5]
 refine dA 10 [13,11,12,10,9,8,4,1] (fun B R L m e v=>∃k,∃hs:List Int,∃ha hc,∃nx:List Int,∃na nc,∃ac:List Bool,∃ba bc,∃mm:List (Int×Int),e=(13,b7 k)::(11,aH ha hs hc)::B∧av w L v ([aQ w2.heap.size #[aH HZ cl HY,ai width,ai 0,aH na nx nc,aH ba ac bc] 28]::[dU (fun a:Int=>ai a) (fun a:Int=>ai a) w4.heap.size mm]::[cE (aw .i64) 3 ha hs hc]::[cE (aw .i64) 3 na nx nc]::[cE bC 4 ba ac bc]::R)∧(k≤hs.length)∧(pg d (aE cl width) (hs,nx) k 0)∧(xf mm (hs.map (fG bl)))∧(ac=(hs.take k).map (Km d))∧((cz d bl (aE cl width) 4097 0 ([d.start],[]))=cz d bl (aE cl width) (4097-k) k (hs,nx))∧m=4097-k) (i:=⟨0,[d.start],(some ⟨w6.heap.size,0,none⟩),[d.start].length,[],none,0,[],none,0,iC [] (bl.getD d.start.toNat 0) 0,rfl,(ck.re rfl),(by simp),(by exact pg.start cB _),(by exact xf.start _),rfl,rfl,rfl⟩) (h:=?_)
 rintro m1 Γ1 w9 ⟨k,hs,ha,hc,nx,na,nc,ac,ba,bc,mm,rfl,cU,hk,hN,hM,hA,hR,rfl⟩
 have hbd:hs.length≤d.acc.length:=hN.bound
 have Yf:ac.length=k:=by rw [hA];simp;omega
 refine aC 9 (fun wT=>?_) fun wT=>?_
 have VN:k<hs.length:=by omega
 have hrk:=(hN.kC k VN).1
 have aco:0≤hs.getD k 0:=hrk.1
 have acn:hs.getD k 0<(d.acc.length:Int):=hrk.2
 have PR:=hN.Cz
 have hnb:nx.length≤4096*259:=by have h8:nx.length=k*(aE cl width).length+0:=PR;have h9:=Nat.mul_le_mul (show k≤4096 by omega) hfw;omega
 refine ab 8 (h:=cg k (cU.rt 2) (k:=ab 0 (h:=cI (cU.rt 2) (k:=fI 4 cU (h:=fun iy cN=>c7 1 1 (cN.b 0) (D:=fun _ hC=>aM hC) (h:=c7 1 3 (cN.b 5) (D:=fun _ hC=>aM hC) (h:=cp 1 5 (nY.at cN) (D:=fun _ hC=>cg ((hs.getD k 0).toNat) hC (cD:=oz)) (h:=cp 0 6 (nY.at cN) (D:=fun _ hC=>cI hC) (h:=dj 0 7 (D:=dL bC [d.acc.getD ((hs.getD k 0).toNat) false] cN (k:=fun gS dt=>?_)))))))))))
 refine ⟨⟨(dt.b 0),trivial,trivial⟩,?_⟩
 refine dj 0 8 (D:=kJ dt 4 (dt.rt 8) (hb:=eR) (kW:=eR) (k:=fun a1 c1 jz Oi=>?_))
 have dw:=(Oi.drop 8).no
 refine ⟨trivial,?_⟩
 refine dj 1 10 (D:=jV dw 0 (k:=fun kK fH=>?_))
 refine ⟨trivial,?_⟩
 have il:=fH.ps [0,1,2,3,4,5,6,7]
 refine dA 10 [58,11,57,56,14,13,12,10,9,8,4,1] (fun B R L m e v=>∃j,∃tt:List Int,∃ta tc,∃mx:List Int,∃ma mc,∃mj:List (Int×Int),e=(58,b7 j)::(11,aH ta tt tc)::B∧av w L v ([aQ w2.heap.size #[aH HZ cl HY,ai width,ai 0,aH ma mx mc,aH a1 (ac++[d.acc.getD ((hs.getD k 0).toNat) false]) c1] 28]::[dU (fun a:Int=>ai a) (fun a:Int=>ai a) w4.heap.size mj]::[cE (aw .i64) 3 ta tt tc]::[cE (aw .i64) 3 ma mx mc]::R)∧(j≤(aE cl width).length)∧((tt,mx)=((aE cl width).take j).foldl (fW d bl (hs.getD k 0)) (hs,nx))∧(xf mj (tt.map (fG bl)))∧m=(aE cl width).length-j) (i:=⟨0,hs,ha,hc,nx,na,nc,mm,rfl,il,oz,rfl,(by exact hM),rfl⟩) (h:=?_)
 rintro m2 Γ2 nH ⟨j,tt,ta,tc,mx,ma,mc,mj,rfl,jh,hj,hF,P5,rfl⟩
 refine aC 6 (fun ael=>?_) fun ael=>?_
 refine ab 6 (h:=cg j (jh.rt 7) (k:=ab 0 (h:=cI (jh.rt 7) (k:=?_))))
 have MH:=CU j oz
 have D1:=jX cB MH.1 MH.2
 have hi1:=eA cB aco acn D1.2.1 D1.2.2.1
 have hNj:=(pg.at' cB Hz CU hN VN hj hF).1
 have hbj:=hNj.bound
 have ahX:mx.length=k*(aE cl width).length+j:=hNj.Cz
 have ahY:mx.length≤4096*259+259:=by have h9:=Nat.mul_le_mul (show k≤4096 by omega) hfw;omega
 have htb:tt.length≤d.acc.length:=hbj
 refine fI 4 jh (h:=fun tU eH=>c7 1 1 (eH.b 5) (D:=fun _ hC=>aM hC) (h:=c7 2 4 (eH.b 5) (D:=fun _ hC=>aM hC) (h:=gk 0 5 (D:=fun _=>Ha) (h:=c7 1 7 (eH.b 5) (D:=fun _ hC=>aM hC) (h:=cp 1 9 (np.at eH) (D:=fun _ hC=>cg (((aE cl width).getD j 0).toNat) hC (cD:=oz)) (h:=cp 0 10 (np.at eH) (D:=fun _ hC=>cI hC) (h:=gk 0 11 (D:=fun _=>aV) (h:=cp 0 12 (my.at eH) (D:=fun _ hC=>cg ((((hs.getD k 0)*d.width)+(d.cls.getD (((aE cl width).getD j 0).toNat) 0)).toNat) hC (cD:=oz)) (h:=cp 0 13 (my.at eH) (D:=fun _ hC=>cI hC) (h:=cv 3 [17,58,11,57,56,14,13,12,10,9,8,4,1] (h:=ab 5 (h:=cg ((d.next.getD ((((hs.getD k 0)*d.width)+(d.cls.getD (((aE cl width).getD j 0).toNat) 0)).toNat) 0).toNat) (SM.at eH) (cD:=oz) (k:=ab 0 (h:=cI (SM.at eH) (k:=?_)))))))))))))))
 refine aN 0 rfl (AD (ek:=(fun a:Int=>ai a)) (fy:=(fun a:Int=>ai a)) (bl.getD ((d.next.getD ((((hs.getD k 0)*d.width)+(d.cls.getD (((aE cl width).getD j 0).toNat) 0)).toNat) 0).toNat) 0) 0 ug Tryz.underlying258 xv rfl rfl (eH.oh 1 rfl) (dv 14 (fun wR=>?_) fun wR=>?_))
 refine ab 12 (h:=cg ((d.next.getD ((((hs.getD k 0)*d.width)+(d.cls.getD (((aE cl width).getD j 0).toNat) 0)).toNat) 0).toNat) (SM.at eH) (cD:=oz) (k:=ab 0 (h:=cI (SM.at eH) (k:=?_))))
 refine zO 1 rfl (gN (ek:=(fun a:Int=>ai a)) (fy:=(fun a:Int=>ai a)) (bl.getD ((d.next.getD ((((hs.getD k 0)*d.width)+(d.cls.getD (((aE cl width).getD j 0).toNat) 0)).toNat) 0).toNat) 0) ((tt.length:Nat):Int) ug Tryz.underlying258 rfl rfl rfl (eH.dr 1) fun ur tV=>?_)
 have lf:=eH.un 1 tV
 refine cv 2 [18,17,58,11,57,56,14,13,12,10,9,8,4,1] (h:=ab 3 (h:=dL (aw .i64) [d.next.getD ((((hs.getD k 0)*d.width)+(d.cls.getD (((aE cl width).getD j 0).toNat) 0)).toNat) 0] lf (k:=fun xq ji=>ab 0 (h:=kJ ji 2 (ji.rt 8) (hb:=eR) (kW:=eR) (k:=fun a2 c2 zn aeX=>?_)))))
 have oI:=(aeX.drop 8).no
 refine ab 5 (h:=aM (oI.b 0) (k:=ab 1 (h:=dL (aw .i64) [((tt.length:Nat):Int)] oI (k:=fun zm nF=>ab 0 (h:=kJ nF 3 (nF.rt 9) (hb:=eR) (kW:=eR) (k:=fun a3 c3 Ix Vn=>?_))))))
 have nE:=(Vn.drop 9).no
 exact aY 1 (h:=jV nE 0 (k:=fun Q9 pM=>ab 4 (h:=aV (k:=cm 2 (h:=by exact ⟨j+1,tt++[d.next.getD ((((hs.getD k 0)*d.width)+(d.cls.getD (((aE cl width).getD j 0).toNat) 0)).toNat) 0],a2,c2,mx++[((tt.length:Nat):Int)],a3,c3,iC mj (bl.getD ((d.next.getD ((((hs.getD k 0)*d.width)+(d.cls.getD (((aE cl width).getD j 0).toNat) 0)).toNat) 0).toNat) 0) ((tt.length:Nat):Int),rfl,(pM.re rfl),oz,(by first|exact L5 hF P5 oz (N5 wR)|exact (zV hF P5 oz (Kh wR)).1),(by first|exact (zV hF P5 oz (Kh wR)).2|exact P5),rfl⟩)))))
 refine ab 4 (h:=aM (eH.b 0) (k:=ab 1 (h:=dL (aw .i64) [(getM mj (bl.getD ((d.next.getD ((((hs.getD k 0)*d.width)+(d.cls.getD (((aE cl width).getD j 0).toNat) 0)).toNat) 0).toNat) 0)).getD 0] eH (k:=fun Oo pL=>ab 0 (h:=kJ pL 3 (pL.rt 8) (hb:=eR) (kW:=eR) (k:=fun a4 c4 Om aeW=>?_))))))
 have rW:=(aeW.drop 8).no
 exact aY 1 (h:=jV rW 0 (k:=fun Ol tS=>cv 3 [58,11,57,56,14,13,12,10,9,8,4,1] (h:=ab 1 (h:=aV (k:=cm 2 (h:=by exact ⟨j+1,tt,ta,tc,mx++[(getM mj (bl.getD ((d.next.getD ((((hs.getD k 0)*d.width)+(d.cls.getD (((aE cl width).getD j 0).toNat) 0)).toNat) 0).toNat) 0)).getD 0],a4,c4,mj,rfl,(tS.re rfl),oz,(by first|exact L5 hF P5 oz (N5 wR)|exact (zV hF P5 oz (Kh wR)).1),(by first|exact (zV hF P5 oz (Kh wR)).2|exact P5),rfl⟩))))))
 refine ab 5 (h:=aV (k:=?_))
 obtain ⟨rr,hrr⟩:=(pg.at' cB Hz CU hN VN hj hF).2
 have hkt:k+1≤tt.length:=by rw [hrr];simp;omega
 exact cm 2 (h:=by exact ⟨k+1,tt,ta,tc,mx,ma,mc,ac++[d.acc.getD ((hs.getD k 0).toNat) false],a1,c1,mj,rfl,jh,oz,(by exact (pg.at' cB Hz CU hN VN hj hF).1.next oz),(by exact P5),(by rw [hA];exact Oc VN hrr),(by exact zR hR VN oz oz hF),rfl⟩)
 refine ab 4 (h:=cd (cU.b 0) (k:=aY 0 (h:=bL cU 6 (k:=fun Q8 pK=>pO 3 (h1:=cS (pK.b 6)) (h:=?_)))))
 obtain ⟨hn1,hn2⟩:=zS hR oz
 have e1:(cz d bl (aE cl width) 4097 0 ([d.start],[])).1.map (Km d)=ac:=by rw [hn1,hA,List.take_of_length_le oz]
 rw [e1,hn2]
 exact ⟨na,nc,ba,bc,rfl,(pK.se [3,4])⟩
theorem KR (d:au) (jN:aP) (j6:aP) (kG:aP) (jM:Nat) (j5:Nat) (kF:Nat) (w:World) (np:cP (aw .i64) w jN d.cls jM) (my:cP (aw .i64) w j6 d.next j5) (nY:cP bC w kG d.acc kF) (hl:d.cls.length≤1000):
 Calls Tryz.prog 159 #[.agg #[aH jN d.cls jM,ai d.width,ai d.start,aH j6 d.next j5,aH kG d.acc kF]] w (aX fun v w'=>∃a2,∃c2:Nat,v=aH a2 (aZ d) c2∧ax w [] w' [cE (aw .i64) 3 a2 (aZ d) c2]):=by
 have mI:=np.le
 have mH:=my.le
 have mJ:=nY.le
 refine cH Tryz.func159 (h:=fun H0=>ab 2 (h:=jf H0 (k:=fun w1 H1=>ab 6 (h:=aM (H1.b 0) (k:=ab 0 (h:=aA (c:=qx jN d.cls jM d.cls.length w1 (np.at H1) oz) (k:=?_)))))))
 rintro _ w2 ⟨bH,b6,rfl,u2⟩
 have H2:=H1.ns u2
 refine ab 6 (h:=aA (c:=BH bH d.cls _ d.cls.length w2 (H2.dr 1) rfl oz) (k:=?_))
 rintro _ w3 ⟨rfl,u3⟩
 have H3:=H2.un 1 u3
 refine ab 5 (h:=aA (c:=tM bH (nQ d.cls) _ d.cls.length w3 (H3.dr 1) ((jT _).symm) (by rw [jT];omega)) (k:=?_))
 rintro _ w4 ⟨rfl,u4⟩
 have H4:=H3.un 1 u4
 exact bE 4 (h:=⟨bH,b6,rfl,(by have hh:=H4.kM 1;exact hh)⟩)
theorem BG (BB:aP) (todo:List Int) (BA:Nat) (n:Nat) (next:FuncId) (Rm:List Value) (nx:Int→List Int) (w:World) (hp:Hp w [ag (aw .i64) (.slice BB todo.length BA) 3 todo]) (hn:n≤5000∧todo.length≤5000) (hr:∀t,t∈todo→0≤t∧t<(n:Int)) (XJ:∀s,0≤s→s<(n:Int)→(nx s).length≤2000000∧∀t,t∈nx s→0≤t∧t<(n:Int)) (bB:fQ Tryz.prog next) (hf:ZR Tryz.prog next Rm nx n (dn [ag (aw .i64) (.slice BB todo.length BA) 3 todo]) w):
 Calls Tryz.prog 160 #[.slice BB todo.length BA,b7 n,.func (.func next) #[] Rm.toArray] w (aX fun v w'=>∃a2,∃o2:List Bool,∃c2,v= .slice a2 o2.length c2∧ax w [ag (aw .i64) (.slice BB todo.length BA) 3 todo] w' [ag bC (.slice a2 o2.length c2) 4 o2]∧(xU nx n todo o2)):=by
 refine tW hp Tryz.func160 (h:=fun H0=>?_)
 refine aN 8 rfl (jo n false (T:=bC) rfl Tryz.underlying26 Wl rfl rfl rfl rfl oz oz fun w1 u1=>?_)
 have H1:=H0.nw u1
 have H2:=H1.ps [1,0]
 refine dA 12 [17,16,15,7,6,0,2] (fun B R L m e v=>∃k,∃o:List Bool,e=(17,b7 k)::B∧av w L v ([ag bC (.slice (some ⟨w.heap.size,0,none⟩) ((List.replicate n false).length) n) 4 o]::R)∧(k≤todo.length)∧(A1 n todo o k)∧m=todo.length-k) (i:=⟨0,List.replicate n false,rfl,H2,om,(by exact A1.start n todo),rfl⟩) (h:=?_)
 rintro m1 Γ1 w2 ⟨k,o,rfl,H3,hk,ha,rfl⟩
 have Fx:=ha.len
 refine aC 6 (fun jx=>?_) fun jx=>?_
 refine ab 6 (h:=cg k (H3.rt 1) (k:=ab 0 (h:=cI (H3.rt 1) (k:=?_))))
 have hb:=hr (todo.getD k 0) (ak oz)
 exact ab 6 (h:=cg ((todo.getD k 0).toNat) (H3.rt 0) (cD:=oz) (k:=aY 0 (h:=tX true H3 0 (k:=fun w3 H4=>ab 4 (h:=aV (k:=cm 2 (h:=by exact ⟨k+1,o.set ((todo.getD k 0).toNat) true,rfl,H4,om,(by exact ha.step oz hr),rfl⟩)))))))
 have hcf:=R1 o
 refine dA 4 [0,7,6,2] (fun B R L m e v=>∃o:List Bool,∃td:List Int,∃ta tc,e=(0,.slice ta td.length tc)::B∧av w L v ([ag bC (.slice (some ⟨w.heap.size,0,none⟩) ((List.replicate n false).length) n) 4 o]::[ag (aw .i64) (.slice ta td.length tc) 3 td]::R)∧(uk nx n todo o td)∧(2*cf o+td.length≤20000)∧m=2*cf o+td.length) (i:=⟨o,todo,BB,BA,rfl,H3,(by exact ha.done oz hr),oz,rfl⟩) (h:=?_)
 rintro m2 Γ2 w4 ⟨nq,td,ta,tc,rfl,H5,hi,hB,rfl⟩
 have Tt:=hi.len
 refine aC 8 (fun UU=>?_) fun UU=>?_
 refine ab 8 (h:=kB (k:=ab 0 (h:=cg (td.length-1) (H5.rt 1) (cD:=oz) (k:=ab 0 (h:=cI (H5.rt 1) (k:=ab 8 (h:=kB (k:=?_))))))))
 refine aN 0 rfl (BC (((td.length:Nat):Int)-1) (td.length-1) (T:=(aw .i64)) (e:=3) (xs:=td) rfl Tryz.underlying25 xv rfl rfl (H5.ow 1) oz oz fun w5 u3=>?_)
 have H6:=H5.un 1 u3
 have iu:=(hi.Ai (td.getD (td.length-1) 0) (ak oz)).1
 have KD:=XJ _ iu.1 iu.2
 refine aN 7 rfl (jO bB rfl rfl (aX.calls (hf w5 H6.keep (td.getD (td.length-1) 0) oz oz) fun _ w6 p1=>?_))
 obtain ⟨na1,nc1,rfl,u4⟩:=p1
 have H7:=H6.nw u4
 refine dA 5 [43,0,42,41,7,6,2] (fun B R L m e v=>∃j,∃o3:List Bool,∃tj:List Int,∃ua uc,e=(43,b7 j)::(0,.slice ua tj.length uc)::B∧av w L v ([ag bC (.slice (some ⟨w.heap.size,0,none⟩) ((List.replicate n false).length) n) 4 o3]::[ag (aw .i64) (.slice ua tj.length uc) 3 tj]::R)∧(pH nx n todo o3 tj (td.getD (td.length-1) 0) j)∧(j≤(nx (td.getD (td.length-1) 0)).length)∧(2*cf o3+tj.length+1≤2*cf nq+td.length)∧m=(nx (td.getD (td.length-1) 0)).length-j) (i:=⟨0,nq,td.take (td.length-1),ta,tc,rfl,H7,(by exact hi.pop oz),om,im,rfl⟩) (h:=?_)
 rintro m3 Γ3 w7 ⟨j,o3,tj,ua,uc,rfl,H8,hj,JN,hm,rfl⟩
 have ahR:=hj.len
 have iu:=(hi.Ai (td.getD (td.length-1) 0) (ak oz)).1
 have KD:=XJ _ iu.1 iu.2
 refine aC 6 (fun US=>?_) fun US=>?_
 have iu:=(hi.Ai (td.getD (td.length-1) 0) (ak oz)).1
 have KD:=XJ _ iu.1 iu.2
 refine ab 6 (h:=cg j (H8.rt 2) (k:=ab 0 (h:=cI (H8.rt 2) (k:=?_))))
 have hb:=KD.2 ((nx (td.getD (td.length-1) 0)).getD j 0) (ak oz)
 refine ab 7 (h:=cg (((nx (td.getD (td.length-1) 0)).getD j 0).toNat) (H8.rt 0) (cD:=oz) (k:=ab 0 (h:=cI (H8.rt 0) (k:=dv 3 (fun Gd=>?_) fun Gd=>?_))))
 refine ab 4 (h:=cg (((nx (td.getD (td.length-1) 0)).getD j 0).toNat) (H8.rt 0) (cD:=oz) (k:=aY 0 (h:=tX true H8 0 (k:=fun w8 H9=>ab 5 (h:=dL (aw .i64) [(nx (td.getD (td.length-1) 0)).getD j 0] H9 (k:=fun w9 bW=>ab 0 (h:=kJ bW 1 (bW.rt 3) (k:=fun a1 c1 iy Vo=>?_))))))))
 have bP:=(Vo.drop 3).no
 have iu:=(hi.Ai (td.getD (td.length-1) 0) (ak oz)).1
 have KD:=XJ _ iu.1 iu.2
 exact ab 5 (h:=aV (k:=cm 2 (h:=by exact ⟨j+1,o3.set (((nx (td.getD (td.length-1) 0)).getD j 0).toNat) true,tj++[(nx (td.getD (td.length-1) 0)).getD j 0],a1,c1,rfl,(bP.re rfl),(by first|exact hj.new oz hb|exact hj.yB oz (by simpa using Gd)),om,(by first|omega|(have h9:=F8 o3 ((nx (td.getD (td.length-1) 0)).getD j 0).toNat oz (by simpa using Gd);rw [List.length_append,List.length_singleton];omega)),rfl⟩)))
 have iu:=(hi.Ai (td.getD (td.length-1) 0) (ak oz)).1
 have KD:=XJ _ iu.1 iu.2
 exact ab 4 (h:=aV (k:=cm 2 (h:=by exact ⟨j+1,o3,tj,ua,uc,rfl,H8,(by first|exact hj.new oz hb|exact hj.yB oz (by simpa using Gd)),om,(by first|omega|(have h9:=F8 o3 ((nx (td.getD (td.length-1) 0)).getD j 0).toNat oz (by simpa using Gd);rw [List.length_append,List.length_singleton];omega)),rfl⟩)))
 exact cm 2 (h:=by exact ⟨o3,tj,ua,uc,rfl,(H8.pm [0,1] rfl rfl),(by exact hj.done oz),oz,rfl⟩)
 refine bE 9 (h:=?_)
 have MR:=hi.fin oz
 exact ⟨(some ⟨w.heap.size,0,none⟩),nq,n,(by rw [Tt,List.length_replicate]),(by have h9:=H5.kM 1;first|(rw [List.length_replicate] at h9;rw [Tt];exact h9)|(have h9:=H5.kM 0;rw [List.length_replicate] at h9;rw [Tt];exact h9)),MR⟩
theorem Ez (s:Int) (lg:Nat) (la:aP) (lc:Nat) (dg:Nat) (d:au) (jN:aP) (jM:Nat) (j6:aP) (j5:Nat) (kG:aP) (kF:Nat) (w:World) (rl:cP (aw .i64) w la (aZ d) lc) (rn:cP (aw .i64) w j6 d.next j5) (blg:w.heap[lg]?=some (.cells #[aH la (aZ d) lc] 25 (0,0))) (bdg:w.heap[dg]?=some (.cells #[aH jN d.cls jM,ai d.width,ai d.start,aH j6 d.next j5,aH kG d.acc kF] 28 (0,0))) (cB:aD d=true) (hs:0≤s∧s<(d.acc.length:Int)):
 Calls Tryz.prog 161 #[ai s,.pointer (some ⟨lg,0,none⟩),.pointer (some ⟨dg,0,none⟩)] w (aX fun v w'=>∃a2,∃c2:Nat,v=aH a2 (Jk d s) c2∧ax w [] w' [cE (aw .i64) 3 a2 (Jk d s) c2]):=by
 have PI:=nO d
 have Ho:=bh.1 cB
 have eI:=rl.le
 have afD:=rn.le
 refine cH Tryz.func161 (h:=fun H0=>ab 13 (h:=aM (H0.nv.obj blg (by simp)) (k:=?_)))
 have H1:=H0.nr (aw .i64) 3
 refine dA 5 [10,5,9,8,4,0,2] (fun B R L m e v=>∃k,∃q:List Int,∃qa qc,e=(10,b7 k)::(5,aH qa q qc)::B∧av w L v ([cE (aw .i64) 3 qa q qc]::R)∧(k≤(aZ d).length)∧(q=((aZ d).take k).map (fun c=>d.next.getD (s*d.width+c).toNat 0))∧(q.length=k)∧m=(aZ d).length-k) (i:=⟨0,([]:List Int),none,0,rfl,H1,om,rfl,rfl,rfl⟩) (h:=?_)
 rintro m1 Γ1 w1 ⟨k,q,qa,qc,rfl,H2,hk,hq,RI,rfl⟩
 refine aC 6 (fun UW=>?_) fun UW=>?_
 refine ab 6 (h:=cg k (rl.at H2) (k:=ab 0 (h:=cI (rl.at H2) (k:=?_))))
 have MU:=uu cB (x:=(aZ d).getD k 0) (ak oz)
 have VO:=eA cB hs.1 hs.2 MU.1 MU.2
 refine ab 6 (h:=aM (H2.nv.obj bdg (by simp)) (k:=ab 2 (h:=aM (H2.nv.obj bdg (by simp)) (k:=ab 0 (h:=Ha (k:=ab 1 (h:=aV (k:=ab 0 (h:=cg (((s*d.width)+((aZ d).getD k 0)).toNat) (rn.at H2) (cD:=oz) (k:=ab 0 (h:=cI (rn.at H2) (k:=ab 0 (h:=dL (aw .i64) [d.next.getD (((s*d.width)+((aZ d).getD k 0)).toNat) 0] H2 (k:=fun w2 H3=>ab 0 (h:=kJ H3 0 (H3.rt 1) (k:=fun a1 c1 w3 Gk=>?_))))))))))))))))
 have H4:=(Gk.drop 1).no
 exact ab 5 (h:=aV (k:=cm 2 (h:=by exact ⟨k+1,q++[d.next.getD (((s*d.width)+((aZ d).getD k 0)).toNat) 0],a1,c1,rfl,(H4.re rfl),om,(by rw [hq];exact L2 oz),im,rfl⟩)))
 refine bE 9 (h:=?_)
 have e:Jk d s=q:=by rw [hq,List.take_of_length_le oz];rfl
 rw [e]
 exact ⟨qa,qc,rfl,(by have hh:=H2.kM 0;exact hh)⟩
theorem I9 (d:au) (jN:aP) (j6:aP) (kG:aP) (jM:Nat) (j5:Nat) (kF:Nat) (w:World) (np:cP (aw .i64) w jN d.cls jM) (my:cP (aw .i64) w j6 d.next j5) (nY:cP bC w kG d.acc kF) (RP:d.cls.length≤1000):
 Calls Tryz.prog 115 #[.agg #[aH jN d.cls jM,ai d.width,ai d.start,aH j6 d.next j5,aH kG d.acc kF]] w (aX fun v w'=>∃a2,∃o2:List Bool,∃c2,v=aH a2 o2 c2∧ax w [] w' [cE bC 4 a2 o2 c2]∧(Oe d o2)):=by
 have mI:=np.le
 have mH:=my.le
 have mJ:=nY.le
 refine cH Tryz.func115 (h:=fun H0=>ab 2 (h:=jf H0 (k:=fun w1 H1=>ab 6 (h:=cd (H1.b 0) (k:=ab 0 (h:=aA (c:=si d jN j6 kG jM j5 kF w1 (np.at H1) (my.at H1) (nY.at H1)) (k:=?_)))))))
 rintro _ w2 ⟨rfl,u2⟩
 have H2:=H1.call u2
 refine dv 3 (fun Kf=>?_) fun Kf=>?_
 exact bE 6 (h:=⟨none,[],0,rfl,eC H2,⟨fun _=>rfl,fun h=>by rw [h] at Kf;exact absurd Kf dk⟩⟩)
 have cB:aD d=true:=by simpa using Kf
 have Ho:=bh.1 cB
 refine ab 4 (h:=cd (H2.b 0) (k:=ab 0 (h:=aA (c:=KR d jN j6 kG jM j5 kF w2 (np.at H2) (my.at H2) (nY.at H2) oz) (k:=?_))))
 rintro _ w3 ⟨bH,b6,rfl,u3⟩
 have H3:=H2.ns u3
 refine ab 0 (h:=dB H3 (k:=fun w4 H4=>aY 0 (h:=jV H4 2 (k:=fun w5 H5=>ab 5 (h:=aM (H5.b 0) (k:=ab 0 (h:=dL (aw .i64) [d.start] H5 (k:=fun w6 H6=>ab 1 (h:=aM (H6.b 0) (k:=?_))))))))))
 refine aN 1 rfl (mS rfl rfl (ab 0 (h:=aA (c:=BG _ [d.start] _ d.acc.length 161 [.pointer (some ⟨w3.heap.size,0,none⟩),.pointer (some ⟨w.heap.size,0,none⟩)] (Jk d) w6 (H6.dr 3) im (by intro t ht;simp only [List.mem_singleton] at ht;subst ht;omega) (fun s h0 h1=>⟨by have:=Po d s;omega,fun t ht=>L3 cB h0 h1 ht⟩) W7 (fun w2 k2 x h0 h1=>Ez x _ _ _ _ d _ _ _ _ _ _ w2 (H6.LB 3 1 rfl rfl rfl k2) (my.kept (H6.JC 3 rfl k2)) (H6.wX 3 2 rfl rfl rfl k2) (H6.wX 3 0 rfl rfl rfl k2) cB ⟨h0,h1⟩)) (k:=?_))))
 rintro _ w7 ⟨gF,n9,iO,rfl,u7,q1⟩
 have H7:=H6.un 3 u7
 exact bE 4 (h:=⟨gF,n9,iO,rfl,H7.kM 3,LA cB q1⟩)
end Go.Proofs.YtpbgmkhmdbchpaaGreatDoor
namespace Go.Sx
theorem Gu {p:Prop} (h:p:=by first|omega|(simp only [List.length_singleton];omega)):p:=h
end Go.Sx
namespace Go.Proofs.YtpbgmkhmdbchpaaGreatDoor
open Go Go.Sx
theorem vX (g:Nat) (b:Int) (c:Int) (v0:Value) (v1:Value) (v2:Value) (ta:aP) (td:List (Int×Int)) (tc:Nat) (wa:aP) (wt:List (LR Bool)) (wc:Nat) (wn:Nat) (w:World) (hp:Hp w [aQ g #[v0,v1,v2,aH ta td tc,.slice wa wn wc] 247,cE jl 249 ta td tc,ag aK (.slice wa wn wc) 26 wt,ao (aG bC 4).row wt]) (hb:0≤b∧b<(wt.length:Int)) (hc:0≤c∧c<((wt.getD b.toNat ae).xs.length:Int)) (hl:td.length≤100000000):
 Calls Tryz.prog 196 #[.pointer (some ⟨g,0,none⟩),.agg #[ai b,ai c]] w (aX fun v w'=>∃uZ,∃uY:Nat,∃x4:List (LR Bool),v= .tuple #[]∧ax w [aQ g #[v0,v1,v2,aH ta td tc,.slice wa wn wc] 247,cE jl 249 ta td tc,ag aK (.slice wa wn wc) 26 wt,ao (aG bC 4).row wt] w' [aQ g #[v0,v1,v2,aH uZ (td++[(b,c)]) uY,.slice wa wn wc] 247,cE jl 249 uZ (td++[(b,c)]) uY,ag aK (.slice wa wn wc) 26 x4,ao (aG bC 4).row x4]∧(rS wt b.toNat c.toNat true x4)):=by
 refine tW hp Tryz.func196 (h:=fun H0=>ab 2 (h:=jf H0 (k:=fun w1 H1=>fI 3 H1 (h:=fun w2 H2=>c7 3 3 (H2.b 0) (D:=fun _ hC=>aM hC) (h:=c7 1 5 (H2.b 4) (D:=fun _ hC=>aM hC) (h:=cp 0 6 (H2.rt 2) (D:=fun _ hC=>cg b.toNat hC (cD:=oz)) (h:=cp 0 7 (H2.rt 2) (D:=fun _ hC=>cI hC) (h:=c7 1 9 (H2.b 4) (D:=fun _ hC=>aM hC) (h:=cp 0 10 (show bz bC w2 (.slice ((wt.getD b.toNat ae).a) ((wt.getD b.toNat ae).n) ((wt.getD b.toNat ae).c)) ((wt.getD b.toNat ae).xs) from (eK.own (H2.bU 3 rfl)).get ae b.toNat oz) (D:=fun _ hC=>cg c.toNat hC (cD:=oz)) (h:=?_))))))))))
 have H3:Uu6:=H2.ei (f:=(aG bC 4).row) ae 3 b.toNat rfl oz
 refine dj 0 11 (D:=tX true H3 5 (xs:=((wt.getD b.toNat ae).xs)) (k:=fun w3 H4=>?_))
 have H5:Uu5x1:=(H4.eo (f:=(aG bC 4).row) ⟨(wt.getD b.toNat ae).a,(wt.getD b.toNat ae).n,(wt.getD b.toNat ae).c,((wt.getD b.toNat ae).xs).set c.toNat true⟩ 3 5 b.toNat rfl rfl rfl oz).re rfl
 have H6:Uu5x1:=H5.lh (((wt.getD b.toNat ae).xs).set c.toNat true) 2 b.toNat rfl oz
 refine ⟨trivial,?_⟩
 refine fI 2 H6 (h:=fun w4 H7=>c7 4 4 (H7.b 0) (D:=fun _ hC=>aM hC) (h:=c7 0 5 (H7.b 4) (D:=fun _ hC=>cd hC) (h:=dj 0 6 (D:=dL jl ([(b,c)]:List (Int×Int)) H7 (k:=fun w5 H8=>?_)))))
 refine ⟨⟨(H8.b 0),trivial,trivial,trivial,trivial,trivial⟩,?_⟩
 refine dj 0 7 (D:=kJ H8 1 (H8.rt 6) (hb:=eR) (kW:=eR) (k:=fun a1 c1 w6 H9x=>?_))
 have H9:=(H9x.drop 6).no
 refine ⟨⟨trivial,trivial⟩,?_⟩
 refine dj 2 10 (D:=jV H9 0 (k:=fun w7 bW=>?_))
 refine ⟨trivial,?_⟩
 exact DY 1 (h:=⟨a1,c1,_,rfl,(bW.se [0,1,2,3]),(rS.mk' oz oz)⟩)
theorem yQ (g:Nat) (c:Int) (a:Int) (b:Int) (v0:Value) (v1:Value) (ma:aP) (ms:List (LR Int)) (mc:Nat) (mn:Nat) (ta:aP) (td:List (Int×Int)) (tc:Nat) (wa:aP) (wt:List (LR Bool)) (wc:Nat) (wn:Nat) (w:World) (hp:Hp w [aQ g #[v0,v1,.slice ma mn mc,aH ta td tc,.slice wa wn wc] 247,ag aK (.slice ma mn mc) 25 ms,cE jl 249 ta td tc,ag aK (.slice wa wn wc) 26 wt,ao (aG bC 4).row wt]) (ha:0≤a∧a<(wt.length:Int)∧a<(ms.length:Int)) (hb:0≤b∧b<(wt.length:Int)∧b<(ms.length:Int)) (hc:0≤c∧c<((wt.getD a.toNat ae).xs.length:Int)∧c<((wt.getD b.toNat ae).xs.length:Int)) (hl:td.length≤100000000):
 Calls Tryz.prog 184 #[.pointer (some ⟨g,0,none⟩),ai c,ai a,ai b] w (aX fun v w'=>∃uZ,∃uY:Nat,∃x4:List (LR Bool),∃x:Int,v= .tuple #[]∧ax w [aQ g #[v0,v1,.slice ma mn mc,aH ta td tc,.slice wa wn wc] 247,ag aK (.slice ma mn mc) 25 ms,cE jl 249 ta td tc,ag aK (.slice wa wn wc) 26 wt,ao (aG bC 4).row wt] w' [aQ g #[v0,v1,.slice ma mn mc,aH uZ (td++[(x,c)]) uY,.slice wa wn wc] 247,ag aK (.slice ma mn mc) 25 ms,cE jl 249 uZ (td++[(x,c)]) uY,ag aK (.slice wa wn wc) 26 x4,ao (aG bC 4).row x4]∧(x=a∨x=b)∧(rS wt x.toNat c.toNat true x4)):=by
 refine tW hp Tryz.func184 (h:=fun H0=>fI 2 H0 (h:=fun w1 H1=>c7 3 3 (H1.b 0) (D:=fun _ hC=>aM hC) (h:=cp 1 5 (H1.rt 1) (D:=fun _ hC=>cg b.toNat hC (cD:=oz)) (h:=cp 0 6 (H1.rt 1) (D:=fun _ hC=>cI hC) (h:=c7 4 11 (H1.b 0) (D:=fun _ hC=>aM hC) (h:=cp 1 13 (H1.rt 1) (D:=fun _ hC=>cg a.toNat hC (cD:=oz)) (h:=cp 0 14 (H1.rt 1) (D:=fun _ hC=>cI hC) (h:=aC 4 (fun VV=>?_) fun VV=>?_))))))))
 refine ab 9 (h:=cu (k:=?_))
 have H2:av _ _ _ [[_,_,_,_],[_]]:=av.of (ax.iW H1 (l:=[0,2,3,4,1]) rfl rfl) rfl
 refine ab 0 (h:=aA (c:=vX _ _ _ v0 v1 (.slice ma mn mc) ta td tc wa wt wc wn w1 (H2.dr 0) oz oz oz) (k:=?_))
 rintro _ w2 ⟨gV,gU,eQ,rfl,u1,q1⟩
 have H3:=H2.un 0 u1
 exact DY 1 (h:=⟨gV,gU,eQ,_,rfl,(H3.se [0,4,1,2,3]),(by first|exact .inl rfl|exact .inr rfl),qI⟩)
 refine ab 6 (h:=cu (k:=?_))
 have H4:av _ _ _ [[_,_,_,_],[_]]:=av.of (ax.iW H1 (l:=[0,2,3,4,1]) rfl rfl) rfl
 refine ab 0 (h:=aA (c:=vX _ _ _ v0 v1 (.slice ma mn mc) ta td tc wa wt wc wn w1 (H4.dr 0) oz oz oz) (k:=?_))
 rintro _ w3 ⟨qL,qK,Bk,rfl,u2,q2⟩
 have H5:=H4.un 0 u2
 exact DY 1 (h:=⟨qL,qK,Bk,_,rfl,(H5.se [0,4,1,2,3]),(by first|exact .inl rfl|exact .inr rfl),qI⟩)
theorem C4 (g:Nat) (la:aP) (l:List Int) (lc:Nat) (ln:Nat) (fa:aP) (fc:Nat) (fn:Nat) (ba:aP) (bl:List Int) (bc:Nat) (bn:Nat) (ma:aP) (ms:List (LR Int)) (mc:Nat) (mn:Nat) (v3:Value) (wa:aP) (wt:List (LR Bool)) (wc:Nat) (wn:Nat) (w:World) (hp:Hp w [aQ g #[.slice fa fn fc,.slice ba bn bc,.slice ma mn mc,v3,.slice wa wn wc] 247,ag (aw .i64) (.slice ba bn bc) 3 bl,ag aK (.slice ma mn mc) 25 ms,ao (aG (aw .i64) 3).row ms,ag aK (.slice wa wn wc) 26 wt,ao (aG bC 4).row wt,ag (aw .i64) (.slice la ln lc) 3 l]) (Bd:∀x,x∈l→0≤x∧x<(bl.length:Int)) (hms:ms.length≤100000000) (hwt:wt.length≤100000000) (X2:fn≤100000000):
 Calls Tryz.prog 183 #[.pointer (some ⟨g,0,none⟩),.slice la ln lc] w (aX fun v w'=>∃R4:List Int,∃Ru,∃Rt:Nat,∃Q7,∃x4:List (LR Bool),∃Q6,v=b7 ms.length∧ax w [aQ g #[.slice fa fn fc,.slice ba bn bc,.slice ma mn mc,v3,.slice wa wn wc] 247,ag (aw .i64) (.slice ba bn bc) 3 bl,ag aK (.slice ma mn mc) 25 ms,ao (aG (aw .i64) 3).row ms,ag aK (.slice wa wn wc) 26 wt,ao (aG bC 4).row wt,ag (aw .i64) (.slice la ln lc) 3 l] w' [aQ g #[.slice fa fn fc,.slice ba bn bc,.slice Ru ((ms++([⟨la,ln,lc,l⟩]:List (LR Int))).length) Rt,v3,aH Q7 x4 Q6] 247,ag (aw .i64) (.slice ba bn bc) 3 R4,ag aK (.slice Ru ((ms++([⟨la,ln,lc,l⟩]:List (LR Int))).length) Rt) 25 (ms++([⟨la,ln,lc,l⟩]:List (LR Int))),ao (aG (aw .i64) 3).row (ms++([⟨la,ln,lc,l⟩]:List (LR Int))),cE aK 26 Q7 x4 Q6,ao (aG bC 4).row x4]∧(ZS l fn la ln lc bl ms wt R4 x4)):=by
 refine tW hp Tryz.func183 (h:=fun H0=>?_)
 have hmn:mn=ms.length:=(H0.GU 2 rfl).len
 have hwn:wn=wt.length:=(H0.GU 4 rfl).len
 have sL:bn=bl.length:=(H0.GU 1 rfl).len
 have hln:ln=l.length:=(H0.GU 6 rfl).len
 refine ab 10 (h:=aM (H0.b 0) (k:=ab 10 (h:=aM (H0.b 0) (k:=ab 1 (h:=dL aK ([⟨la,ln,lc,l⟩]:List (LR Int)) H0 (k:=fun w1 H1=>?_))))))
 refine aN 0 rfl (ff (T:=aK) (xs:=ms) (ys:=([⟨la,ln,lc,l⟩]:List (LR Int))) rfl Tryz.underlying198 Ej rfl rfl rfl (H1.rt 2).len (H1.ow 2) (H1.rt 7) eR eR fun a1 c1 w2 u2=>?_)
 have H2:=((H1.un 2 u2).drop 7).no
 have H3:Uu6x2:=(av.ng (f:=(aG (aw .i64) 3).row) (⟨la,ln,lc,l⟩:(LR Int)) H2 3 6 rfl rfl rfl).re rfl
 refine aY 2 (h:=jV H3 0 (k:=fun w3 H4=>fI 3 H4 (h:=fun w4 H5=>c7 4 4 (H5.b 0) (D:=fun _ hC=>aM hC) (h:=c7 3 8 (H5.b 0) (D:=fun _ hC=>aM hC) (h:=?_)))))
 refine uR 1 10 ⟨_,_,_,rfl,rfl,rfl,rfl,rfl,rfl⟩ (jo fn false (T:=bC) rfl Tryz.underlying26 Wl rfl rfl rfl rfl Gu Gu fun w5 u4=>?_)
 have H6:=H5.nw u4
 refine ⟨⟨(H6.b 0),trivial,trivial,trivial,trivial,trivial⟩,?_⟩
 refine dj 0 11 (D:=dL aK ([⟨(some ⟨w4.heap.size,0,none⟩),(List.replicate fn false).length,fn,List.replicate fn false⟩]:List (LR Bool)) H6 (k:=fun w6 H7=>?_))
 refine ⟨⟨(H7.b 0),trivial,trivial,trivial,trivial,trivial⟩,?_⟩
 refine uR 0 12 ⟨_,_,_,rfl,rfl,rfl,rfl,rfl,rfl⟩ (ff (T:=aK) (xs:=wt) (ys:=([⟨(some ⟨w4.heap.size,0,none⟩),(List.replicate fn false).length,fn,List.replicate fn false⟩]:List (LR Bool))) rfl Tryz.underlying38 aa8 rfl rfl rfl (H7.rt 4).len (H7.ow 4) (H7.rt 9) Gu Gu fun a2 c2 w7 u6=>?_)
 have H8:=((H7.un 4 u6).drop 9).no
 have H9:Uu6x4:=(av.ng (f:=(aG bC 4).row) (⟨(some ⟨w4.heap.size,0,none⟩),(List.replicate fn false).length,fn,List.replicate fn false⟩:(LR Bool)) H8 5 8 rfl rfl rfl).re rfl
 refine ⟨⟨trivial,trivial⟩,?_⟩
 refine dj 2 15 (D:=jV H9 0 (k:=fun w8 bW=>?_))
 refine ⟨trivial,?_⟩
 refine cv 2 [5,4,0,1] (h:=?_)
 have hll:=bz.le (show bz (aw .i64) w8 (.slice la ln lc) l from (eK.own (bW.bU 3 rfl)) ⟨la,ln,lc,l⟩ (by simp))
 have bP:=bW.ps [1,0,2,3,4,5]
 refine dA 9 [40,39,38,5,4,0] (fun B R L m e v=>∃k,∃bq:List Int,e=(40,b7 k)::B∧av w L v ([ag (aw .i64) (.slice ba bn bc) 3 bq]::R)∧(k≤l.length)∧(Q3 l ((mn:Nat):Int) bl bq k)∧m=l.length-k) (i:=⟨0,bl,rfl,bP,om,(by exact Q3.start _ _ _),rfl⟩) (h:=?_)
 rintro m1 Γ1 w9 ⟨k,bq,rfl,ck,hk,hq,rfl⟩
 have RI:=hq.len
 have hll:=bz.le (show bz (aw .i64) w9 (.slice la ln lc) l from (eK.own (ck.bU 3 rfl)) ⟨la,ln,lc,l⟩ (by simp))
 refine aC 6 (fun Kd=>?_) fun Kd=>?_
 have hll:=bz.le (show bz (aw .i64) w9 (.slice la ln lc) l from (eK.own (ck.bU 3 rfl)) ⟨la,ln,lc,l⟩ (by simp))
 refine ab 6 (h:=cg k (show bz (aw .i64) w9 (.slice la ln lc) l from (eK.own (ck.bU 3 rfl)) ⟨la,ln,lc,l⟩ (by simp)) (k:=ab 0 (h:=cI (show bz (aw .i64) w9 (.slice la ln lc) l from (eK.own (ck.bU 3 rfl)) ⟨la,ln,lc,l⟩ (by simp)) (k:=?_))))
 have hxb:=Bd (l.getD k 0) (ak oz)
 refine ab 7 (h:=aM (ck.b 1) (k:=ab 2 (h:=cg ((l.getD k 0).toNat) (ck.rt 0) (cD:=oz) (k:=aY 0 (h:=tX ((mn:Nat):Int) ck 0 (k:=fun iy cU=>?_))))))
 have hll:=bz.le (show bz (aw .i64) iy (.slice la ln lc) l from (eK.own (cU.bU 3 rfl)) ⟨la,ln,lc,l⟩ (by simp))
 exact ab 4 (h:=aV (k:=cm 2 (h:=by exact ⟨k+1,bq.set ((l.getD k 0).toNat) ((mn:Nat):Int),rfl,cU,om,(by exact hq.step oz hxb),rfl⟩)))
 exact bE 9 (h:=⟨_,a1,c1,a2,wt++([⟨(some ⟨w4.heap.size,0,none⟩),(List.replicate fn false).length,fn,List.replicate fn false⟩]:List (LR Bool)),c2,(by rw [hmn]),(ck.se [1,0,2,3,4,5]),⟨hq.len,by rw [←hmn];exact hq.fin oz,by simp,fun i hi=>lS hi,by rw [mP]⟩⟩)
end Go.Proofs.YtpbgmkhmdbchpaaGreatDoor
namespace Go.Sx
theorem Ra {p:Prop} (h:p:=by simp only [List.length_set,List.length_append,List.length_singleton];omega):p:=h
end Go.Sx
namespace Go.Proofs.YtpbgmkhmdbchpaaGreatDoor
open Go Go.Sx
theorem El (x:Int) (g:Nat) (mg:Nat) (gm:List (Int×Int)) (w:World) (hmg:oH w (fun a:Int=>ai a) (fun a:Int=>ai a) mg gm) (bg:w.heap[g]?=some (.cells #[.map (some mg)] 258 (0,0))):
 Calls Tryz.prog 198 #[ai x,.pointer (some ⟨g,0,none⟩)] w (aX fun v w'=>v= .bool (decide ((getM gm x).getD 0=1))∧ax w [] w' []):=by
 refine cH Tryz.func198 (h:=fun H0=>ab 7 (h:=aM (H0.nv.obj bg (by simp)) (k:=?_)))
 exact aN 1 rfl (HR (ek:=(fun a:Int=>ai a)) (fy:=(fun a:Int=>ai a)) x 0 ug Tryz.underlying258 xv rfl rfl (vN hmg H0.nv (by simp)) (bE 5 (h:=⟨rfl,H0.af⟩)))
theorem Dj (sa:aP) (s:List Int) (sc:Nat) (f:FuncId) (fc:List Value) (p:Int→Bool) (w:World) (hp:Hp w [cE (aw .i64) 3 sa s sc]) (hl:s.length≤100000) (bB:fQ Tryz.prog f) (hf:ZQ Tryz.prog f fc p (dn [cE (aw .i64) 3 sa s sc]) w):
 Calls Tryz.prog 197 #[aH sa s sc,.func (.func f) #[] fc.toArray] w (aX fun v w'=>v=aH sa (s.filter (fun x=> !p x)) sc∧ax w [cE (aw .i64) 3 sa s sc] w' [cE (aw .i64) 3 sa (s.filter (fun x=> !p x)) sc]):=by
 have VB:=FK p s
 refine tW hp Tryz.func197 (h:=fun H0=>ab 9 (h:=aA (c:=pR sa s sc f fc p w (H0.rt 0) bB (fun w9 k9 x=>hf w9 (H0.keep.trans k9.nil) x)) (k:=?_)))
 rintro _ w1 ⟨rfl,u1⟩
 have H1:=H0.call u1
 refine aC 10 (fun Zk=>?_) fun Zk=>?_
 refine bE 7 (h:=?_)
 have hq9:=VB.resolve_right (fun h=>by obtain ⟨k,h,_⟩:=h;omega)
 have e:s.filter (fun x=> !p x)=s:=by have h9:=yI hq9.2;rwa [List.take_of_length_le oz] at h9
 rw [e]
 exact ⟨rfl,(H1.se [0])⟩
 obtain ⟨k0,hr,MM,hn0,hp0⟩:=VB.resolve_left (fun h=>Zk h.1)
 have lu:ot p s=(((ot p s).toNat:Nat):Int):=by omega
 have tD:(ot p s).toNat=k0:=by omega
 refine ab 6 (h:=aV (k:=?_))
 rw [lu]
 refine dA 4 [6,5,4,0,1] (fun B R L m e v=>∃i j,∃ys:List Int,e=(6,b7 j)::(5,b7 i)::B∧av w L v ([ag (aw .i64) (aH sa s sc) 3 ys]::R)∧(rZ p s ys i j)∧(j≤s.length)∧m=s.length-j) (i:=⟨(ot p s).toNat,((ot p s).toNat+1),s,rfl,H1,(by rw [tD];exact rZ.start hn0 MM hp0),om,rfl⟩) (h:=?_)
 rintro m1 Γ1 w2 ⟨i,j,ys,rfl,H2,hd,hj,rfl⟩
 have X8:=hd.len
 have aiI:=hd.le
 refine aC 9 (fun aee=>?_) fun aee=>?_
 refine ab 8 (h:=cg j (H2.rt 0) (k:=ab 0 (h:=cI (H2.rt 0) (k:=?_))))
 refine aN 7 rfl (jO bB rfl rfl (aX.calls (hf w2 H2.keep (ys.getD j 0)) fun _ w3 p2=>?_))
 obtain ⟨rfl,u2⟩:=p2
 have H3:=H2.call u2
 refine dv 3 (fun NU=>?_) fun NU=>?_
 exact ab 5 (h:=cg i (H3.rt 0) (k:=aY 0 (h:=tX (ys.getD j 0) H3 0 (k:=fun w4 H4=>ab 4 (h:=aV (k:=ab 6 (h:=aV (k:=cm 2 (h:=by exact ⟨i+1,j+1,ys.set i (ys.getD j 0),rfl,H4,(by first|exact hd.yes oz (by simpa using NU)|exact hd.no oz (by simpa using NU)),om,rfl⟩)))))))))
 exact ab 5 (h:=aV (k:=cm 2 (h:=by exact ⟨i,j+1,ys,rfl,H3,(by first|exact hd.yes oz (by simpa using NU)|exact hd.no oz (by simpa using NU)),om,rfl⟩)))
 refine aN 6 rfl (K6 i Tryz.underlying25 xv rfl rfl rfl oz (vu (H2.ow 0)) ?_)
 refine zO 0 rfl (Lb i 0 (T:=(aw .i64)) (xs:=ys) rfl Tryz.underlying25 xv rfl rfl (H2.ow 0) (by exact X8.symm) oz fun w5 u4=>?_)
 have H5:=H2.un 0 u4
 refine aN 6 rfl (La ((i:Nat):Int) i (T:=(aw .i64)) (e:=3) (xs:=(ys.take i++List.replicate (s.length-i) 0)) rfl Tryz.underlying25 xv rfl rfl (H5.ow 0) im rfl oz fun w6 u5=>?_)
 have H6:=H5.un 0 u5
 refine bE 4 (h:=?_)
 have e:s.filter (fun x=> !p x)=(ys.take i++List.replicate (s.length-i) 0).take i:=by have h9:=hd.fin oz;have h8:(ys.take i).length=i:=by { simp;omega };rw [←h9,List.take_append_of_le_length (Nat.le_of_eq h8.symm),List.take_take,Nat.min_self]
 rw [e]
 exact ⟨rfl,(H6.se [0])⟩
theorem Fu (g:Nat) (b:Int) (oa:aP) (out:List Int) (oc:Nat) (on:Nat) (fa:aP) (fc:Nat) (fn:Nat) (ba:aP) (bl:List Int) (bc:Nat) (bn:Nat) (ma:aP) (ms:List (LR Int)) (mc:Nat) (mn:Nat) (ta:aP) (td:List (Int×Int)) (tc:Nat) (wa:aP) (wt:List (LR Bool)) (wc:Nat) (wn:Nat) (w:World) (hp:Hp w [aQ g #[.slice fa fn fc,.slice ba bn bc,.slice ma mn mc,.slice ta td.length tc,.slice wa wn wc] 247,ag (aw .i64) (.slice ba bn bc) 3 bl,ag aK (.slice ma mn mc) 25 ms,ao (aG (aw .i64) 3).row ms,ag jl (.slice ta td.length tc) 249 td,ag aK (.slice wa wn wc) 26 wt,ao (aG bC 4).row wt,ag (aw .i64) (.slice oa on oc) 3 out]) (hb:0≤b∧b<(ms.length:Int)) (Vz:wt.length=ms.length) (acm:∀i,i<wt.length→(wt.getD i ae).xs.length=fn) (Bd:∀x,x∈out→0≤x∧x<(bl.length:Int)) (hms:ms.length≤1000000) (X2:fn≤1000000) (htd:td.length≤10000000) (hlb:(ms.getD b.toNat ae).xs.length≤100000):
 Calls Tryz.prog 185 #[.pointer (some ⟨g,0,none⟩),ai b,.slice oa on oc] w (aX fun v w'=>∃R4:List Int,∃Ru,∃Md:List (LR Int),∃Rt uZ,∃Oq:List (Int×Int),∃uY Q7,∃x4:List (LR Bool),∃Q6,∃V5:Nat,v= .tuple #[]∧ax w [aQ g #[.slice fa fn fc,.slice ba bn bc,.slice ma mn mc,.slice ta td.length tc,.slice wa wn wc] 247,ag (aw .i64) (.slice ba bn bc) 3 bl,ag aK (.slice ma mn mc) 25 ms,ao (aG (aw .i64) 3).row ms,ag jl (.slice ta td.length tc) 249 td,ag aK (.slice wa wn wc) 26 wt,ao (aG bC 4).row wt,ag (aw .i64) (.slice oa on oc) 3 out] w' [aQ g #[.slice fa fn fc,.slice ba bn bc,.slice Ru Md.length Rt,.slice uZ Oq.length uY,.slice Q7 V5 Q6] 247,ag (aw .i64) (.slice ba bn bc) 3 R4,ag aK (.slice Ru Md.length Rt) 25 Md,ao (aG (aw .i64) 3).row Md,ag jl (.slice uZ Oq.length uY) 249 Oq,ag aK (.slice Q7 V5 Q6) 26 x4,ao (aG bC 4).row x4]∧(QY b.toNat out fn bl ms td wt R4 Md Oq x4)):=by
 refine tW hp Tryz.func185 (h:=fun H0=>?_)
 have Yb:b.toNat<wt.length:=by omega
 have MK:on=out.length:=(H0.GU 7 rfl).len
 have hmn:mn=ms.length:=(H0.GU 2 rfl).len
 have hwn:wn=wt.length:=(H0.GU 5 rfl).len
 have Fx:=(H0.GU 7 rfl).le
 refine aN 4 rfl (FR (fun a:Int=>ai a) (fun a:Int=>ai a) Tryz.underlying258 rfl fun w1 u1=>?_)
 have H1:=H0.nw u1
 refine ab 0 (h:=dB H1 (k:=fun w2 H2=>aY 0 (h:=jV H2 9 (k:=fun w3 H3=>?_))))
 have H4:=H3.ps [8,0,1,2,3,4,5,6,7,9]
 refine dA 11 [16,15,14,6,0,1,2] (fun B R L m e v=>∃k,∃gm:List (Int×Int),e=(16,b7 k)::B∧av w L v ([dU (fun a:Int=>ai a) (fun a:Int=>ai a) w.heap.size gm]::R)∧(k≤out.length)∧(pZ gm out k)∧m=out.length-k) (i:=⟨0,[],rfl,(H4.re rfl),oz,(by exact pZ.start out),rfl⟩) (h:=?_)
 rintro m1 Γ1 w4 ⟨k,gm,rfl,H5,hk,hg,rfl⟩
 refine aC 6 (fun AO=>?_) fun AO=>?_
 refine ab 6 (h:=cg k (H5.rt 8) (k:=ab 0 (h:=cI (H5.rt 8) (k:=ab 4 (h:=aM (H5.b 9) (k:=?_))))))
 refine zO 1 rfl (gN (ek:=(fun a:Int=>ai a)) (fy:=(fun a:Int=>ai a)) (out.getD k 0) 1 ug Tryz.underlying258 rfl rfl rfl (H5.dr 0) fun w5 u4=>?_)
 have H6:=H5.un 0 u4
 exact ab 4 (h:=aV (k:=cm 2 (h:=by exact ⟨k+1,iC gm (out.getD k 0) 1,rfl,H6,oz,(by exact hg.step oz),rfl⟩)))
 have H7:Uu11:=H5.ei (f:=(aG (aw .i64) 3).row) ae 4 b.toNat rfl oz
 refine fI 3 H7 (h:=fun w6 H8=>c7 3 3 (H8.b 1) (D:=fun _ hC=>aM hC) (h:=c7 4 8 (H8.b 1) (D:=fun _ hC=>aM hC) (h:=cp 1 10 (H8.rt 3) (D:=fun _ hC=>cg b.toNat hC (cD:=oz)) (h:=cp 0 11 (H8.rt 3) (D:=fun _ hC=>cI hC) (h:=?_)))))
 refine nJ 0 13 ⟨_,_,_,rfl,rfl,rfl,rfl,rfl,rfl⟩ (fun _=>mS rfl rfl ⟨rfl,rfl⟩) (dj 0 12 (D:=aA (c:=qx _ ((ms.getD b.toNat ae).xs) _ ((ms.getD b.toNat ae).n) w6 (H8.rt 10) oz) (k:=?_)))
 rintro _ w7 ⟨bH,b6,rfl,u5⟩
 have H9:=H8.ns u5
 refine ⟨⟨trivial,trivial,(H9.b 1),trivial,trivial,trivial,trivial⟩,?_⟩
 refine dj 0 14 (D:=aA (c:=Dj bH ((ms.getD b.toNat ae).xs) _ 198 [.pointer (some ⟨w1.heap.size,0,none⟩)] (fun x=>decide ((getM gm x).getD 0=1)) w7 (H9.dr 11) oz W5 (fun w9 k9 x=>El x _ _ gm w9 (Mi H9 11 0 rfl rfl rfl k9) (H9.wX 11 9 rfl rfl rfl k9))) (k:=?_))
 rintro _ w8 ⟨rfl,u6⟩
 have bW:=H9.un 11 u6
 refine ⟨⟨trivial,(bW.b 1),trivial,trivial,trivial,trivial⟩,?_⟩
 refine cp 0 15 (bW.rt 3) (D:=fun _ hC=>cg b.toNat hC (cD:=oz)) (h:=dj 0 16 (D:=tX ⟨bH,(((ms.getD b.toNat ae).xs).filter (fun x=> !(fun x=>decide ((getM gm x).getD 0=1)) x)).length,b6,((ms.getD b.toNat ae).xs).filter (fun x=> !(fun x=>decide ((getM gm x).getD 0=1)) x)⟩ bW 3 (T:=aK) (k:=fun w9 bP=>?_)))
 have ck:Uu11x1:=(bP.eo (f:=(aG (aw .i64) 3).row) ⟨bH,(((ms.getD b.toNat ae).xs).filter (fun x=> !(fun x=>decide ((getM gm x).getD 0=1)) x)).length,b6,((ms.getD b.toNat ae).xs).filter (fun x=> !(fun x=>decide ((getM gm x).getD 0=1)) x)⟩ 4 11 b.toNat rfl rfl rfl oz).re rfl
 refine ⟨trivial,?_⟩
 have cU:av _ _ _ [[_,_,_,_,_,_],[_],[_],[_],[_],[_],[]]:=av.of (ax.iW ck (l:=[1,2,3,4,6,7,0,5,8,9,10]) rfl rfl) rfl
 refine ab 6 (h:=aA (c:=C4 _ oa out oc on fa fc fn ba bl bc bn ma (ms.set b.toNat ⟨bH,(((ms.getD b.toNat ae).xs).filter (fun x=> !(fun x=>decide ((getM gm x).getD 0=1)) x)).length,b6,((ms.getD b.toNat ae).xs).filter (fun x=> !(fun x=>decide ((getM gm x).getD 0=1)) x)⟩) mc mn (.slice ta td.length tc) wa wt wc wn w9 (cU.CQ 0 3 rfl rfl rfl) Bd (by simp only [List.length_set];omega) oz oz) (k:=?_))
 rintro _ iy ⟨pW,jB,jA,iT,eQ,iS,rfl,u8,q1⟩
 have cN:av _ _ _ [[_,_,_,_,_,_],[_],[_],[],[_],[_],[]]:=(cU.fE (A':=[aQ g #[.slice fa fn fc,.slice ba bn bc,.slice jB (((ms.set b.toNat ⟨bH,(((ms.getD b.toNat ae).xs).filter (fun x=> !(fun x=>decide ((getM gm x).getD 0=1)) x)).length,b6,((ms.getD b.toNat ae).xs).filter (fun x=> !(fun x=>decide ((getM gm x).getD 0=1)) x)⟩)++([⟨oa,on,oc,out⟩]:List (LR Int))).length) jA,(.slice ta td.length tc),.slice iT eQ.length iS] 247,ag (aw .i64) (.slice ba bn bc) 3 pW,ag aK (.slice jB (((ms.set b.toNat ⟨bH,(((ms.getD b.toNat ae).xs).filter (fun x=> !(fun x=>decide ((getM gm x).getD 0=1)) x)).length,b6,((ms.getD b.toNat ae).xs).filter (fun x=> !(fun x=>decide ((getM gm x).getD 0=1)) x)⟩)++([⟨oa,on,oc,out⟩]:List (LR Int))).length) jA) 25 ((ms.set b.toNat ⟨bH,(((ms.getD b.toNat ae).xs).filter (fun x=> !(fun x=>decide ((getM gm x).getD 0=1)) x)).length,b6,((ms.getD b.toNat ae).xs).filter (fun x=> !(fun x=>decide ((getM gm x).getD 0=1)) x)⟩)++([⟨oa,on,oc,out⟩]:List (LR Int))),ao (aG (aw .i64) 3).row ((ms.set b.toNat ⟨bH,(((ms.getD b.toNat ae).xs).filter (fun x=> !(fun x=>decide ((getM gm x).getD 0=1)) x)).length,b6,((ms.getD b.toNat ae).xs).filter (fun x=> !(fun x=>decide ((getM gm x).getD 0=1)) x)⟩)++([⟨oa,on,oc,out⟩]:List (LR Int))),ag aK (.slice iT eQ.length iS) 26 eQ,ao (aG bC 4).row eQ]) (B':=[]) (C:=[]) 0 3 rfl rfl rfl u8).re rfl
 refine ab 8 (h:=aM ((cN.dr 0).aQ (List.mem_of_getElem? (i:=0) rfl)) (k:=cv 4 [47,46,9,0,1] (h:=?_)))
 have dt:av _ _ _ [[_],[_],[_],[_],[_],[_],[_],[_],[],[_],[_],[]]:=cN.re rfl
 have dw:=dt.ps [0,4,5,7,1,2,3,6,8,9]
 refine dA 1 [47,46,9,0,1] (fun B R L m e v=>∃c,∃tq:List (Int×Int),∃uw uv,∃wq:List (LR Bool),e=(47,b7 c)::B∧av w L v ([aQ g #[.slice fa fn fc,.slice ba bn bc,.slice jB (((ms.set b.toNat ⟨bH,(((ms.getD b.toNat ae).xs).filter (fun x=> !(fun x=>decide ((getM gm x).getD 0=1)) x)).length,b6,((ms.getD b.toNat ae).xs).filter (fun x=> !(fun x=>decide ((getM gm x).getD 0=1)) x)⟩)++([⟨oa,on,oc,out⟩]:List (LR Int))).length) jA,.slice uw tq.length uv,.slice iT eQ.length iS] 247]::[ag aK (.slice iT eQ.length iS) 26 wq]::[ao (aG bC 4).row wq]::[ag jl (.slice uw tq.length uv) 249 tq]::R)∧(c≤fn)∧(OI b.toNat fn wt td wq tq c)∧m=fn-c) (i:=⟨0,td,ta,tc,eQ,rfl,(dw.re rfl),om,(by exact OI.start acm Yb q1.wl q1.wo q1.wn),rfl⟩) (h:=?_)
 rintro m2 Γ2 gS ⟨c,tq,uw,uv,wq,rfl,fH,hc,hq,rfl⟩
 refine aC 6 (fun c97=>?_) fun c97=>?_
 have hqb:=hq.wr b.toNat oz
 have hqn:=hq.wr wt.length oz
 have RI:=hq.wl
 have hqt:=hq.tl
 have Xt:=hq.un c (Nat.le_refl _) oz
 refine ab 15 (h:=aM (fH.b 0) (k:=ab 1 (h:=cg b.toNat (fH.rt 1) (cD:=oz) (k:=ab 0 (h:=cI (fH.rt 1) (k:=ab 1 (h:=cg c (show bz bC gS (.slice ((wq.getD b.toNat ae).a) ((wq.getD b.toNat ae).n) ((wq.getD b.toNat ae).c)) ((wq.getD b.toNat ae).xs) from (eK.own (fH.bU 2 rfl)).get ae b.toNat oz) (k:=ab 0 (h:=cI (show bz bC gS (.slice ((wq.getD b.toNat ae).a) ((wq.getD b.toNat ae).n) ((wq.getD b.toNat ae).c)) ((wq.getD b.toNat ae).xs) from (eK.own (fH.bU 2 rfl)).get ae b.toNat oz) (k:=dv 2 (fun xP=>?_) fun xP=>?_))))))))))
 refine ab 4 (h:=cu (k:=?_))
 have il:av _ _ _ [[_,_,_,_],[_],[_],[_],[_],[_],[_]]:=av.of (ax.iW fH (l:=[0,3,1,2,4,5,6,7,8,9]) rfl rfl) rfl
 refine ab 0 (h:=aA (c:=vX _ _ _ (.slice fa fn fc) (.slice ba bn bc) (.slice jB (((ms.set b.toNat ⟨bH,(((ms.getD b.toNat ae).xs).filter (fun x=> !(fun x=>decide ((getM gm x).getD 0=1)) x)).length,b6,((ms.getD b.toNat ae).xs).filter (fun x=> !(fun x=>decide ((getM gm x).getD 0=1)) x)⟩)++([⟨oa,on,oc,out⟩]:List (LR Int))).length) jA) uw tq uv iT wq iS eQ.length gS (il.dr 0) (by simp only [List.length_set];omega) (by simp only [List.length_set,Int.toNat_natCast];rw [←Vz];omega) oz) (k:=?_))
 rintro _ jz ⟨gV,gU,Bk,rfl,u9,q2⟩
 have jh:=il.un 0 u9
 refine ab 4 (h:=aV (k:=?_))
 have eH:=jh.sn
 exact cm 2 (h:=by exact ⟨c+1,tq++[((((ms.set b.toNat ⟨bH,(((ms.getD b.toNat ae).xs).filter (fun x=> !(fun x=>decide ((getM gm x).getD 0=1)) x)).length,b6,((ms.getD b.toNat ae).xs).filter (fun x=> !(fun x=>decide ((getM gm x).getD 0=1)) x)⟩).length:Nat):Int),((c:Nat):Int))],gV,gU,Bk,rfl,(eH.pm [0,2,3,1,4,5,6,7,8,9] rfl rfl),om,(by first|(simp only [List.length_set,Int.toNat_natCast] at q2 ⊢;rw [←Vz] at q2 ⊢;exact hq.put Yb oz (.inr rfl) (fun _=>rfl) q2)|(simp only [List.length_set] at q3;rw [←Vz] at q3;have e8:nG=((nG.toNat:Nat):Int):=oz;have h7:=hq.put Yb oz oz (fun h9=>by have h8:=Xt.trans h9;unfold cG at h8;exact absurd h8 xP) q4;rw [←e8] at h7;exact h7)),rfl⟩)
 have lf:av _ _ _ [[_,_,_,_,_],[_],[_],[_],[_],[_]]:=av.of (ax.iW fH (l:=[0,5,3,1,2,4,6,7,8,9]) rfl rfl) rfl
 refine ab 5 (h:=aA (c:=yQ _ _ _ _ (.slice fa fn fc) (.slice ba bn bc) jB ((ms.set b.toNat ⟨bH,(((ms.getD b.toNat ae).xs).filter (fun x=> !(fun x=>decide ((getM gm x).getD 0=1)) x)).length,b6,((ms.getD b.toNat ae).xs).filter (fun x=> !(fun x=>decide ((getM gm x).getD 0=1)) x)⟩)++([⟨oa,on,oc,out⟩]:List (LR Int))) jA (((ms.set b.toNat ⟨bH,(((ms.getD b.toNat ae).xs).filter (fun x=> !(fun x=>decide ((getM gm x).getD 0=1)) x)).length,b6,((ms.getD b.toNat ae).xs).filter (fun x=> !(fun x=>decide ((getM gm x).getD 0=1)) x)⟩)++([⟨oa,on,oc,out⟩]:List (LR Int))).length) uw tq uv iT wq iS eQ.length gS (lf.dr 0) Ra Ra (by simp only [List.length_set,Int.toNat_natCast];rw [←Vz];omega) oz) (k:=?_))
 rintro _ kK ⟨qL,qK,V4,nG,rfl,uU,q3,q4⟩
 have ji:=lf.un 0 uU
 refine ab 4 (h:=aV (k:=?_))
 have oI:=ji.sn
 exact cm 2 (h:=by exact ⟨c+1,tq++[(nG,((c:Nat):Int))],qL,qK,V4,rfl,(oI.pm [0,3,4,2,5,1,6,7,8,9] rfl rfl),om,(by first|(simp only [List.length_set,Int.toNat_natCast] at q2 ⊢;rw [←Vz] at q2 ⊢;exact hq.put Yb oz (.inr rfl) (fun _=>rfl) q2)|(simp only [List.length_set] at q3;rw [←Vz] at q3;have e8:nG=((nG.toNat:Nat):Int):=oz;have h7:=hq.put Yb oz oz (fun h9=>by have h8:=Xt.trans h9;unfold cG at h8;exact absurd h8 xP) q4;rw [←e8] at h7;exact h7)),rfl⟩)
 refine DY 1 (h:=?_)
 obtain ⟨m1,m2,m3,m4⟩:=SB (a:=bH) (n:=((ms.getD b.toNat ae).xs.filter (fun x=> !(fun x=>decide ((getM gm x).getD 0=1)) x)).length) (c:=b6) (oa:=oa) (on:=on) (oc:=oc) (show b.toNat<ms.length by omega) hg oz
 exact ⟨pW,jB,(ms.set b.toNat ⟨bH,(((ms.getD b.toNat ae).xs).filter (fun x=> !(fun x=>decide ((getM gm x).getD 0=1)) x)).length,b6,((ms.getD b.toNat ae).xs).filter (fun x=> !(fun x=>decide ((getM gm x).getD 0=1)) x)⟩)++([⟨oa,on,oc,out⟩]:List (LR Int)),jA,uw,tq,uv,iT,_,iS,eQ.length,rfl,(fH.se [0,4,5,6,3,1,2]),(OI.fin hq oz m1 m2 m3 m4 q1.bll (by have h9:=q1.bv;simpa only [List.length_set] using h9))⟩
theorem JI (g:Nat) (t:Int) (c:Int) (d:au) (fa:aP) (F:List (LR (LR Int))) (fc:Nat) (fn:Nat) (ba:aP) (bl:List Int) (bc:Nat) (bn:Nat) (ma:aP) (ms:List (LR Int)) (mc:Nat) (mn:Nat) (ta:aP) (td:List (Int×Int)) (tc:Nat) (wa:aP) (wt:List (LR Bool)) (wc:Nat) (wn:Nat) (w:World) (hp:Hp w [aQ g #[.slice fa fn fc,.slice ba bn bc,.slice ma mn mc,.slice ta td.length tc,.slice wa wn wc] 247,lV 198 25 fa fn fc F,ag (aw .i64) (.slice ba bn bc) 3 bl,ag aK (.slice ma mn mc) 25 ms,ao (aG (aw .i64) 3).row ms,ag jl (.slice ta td.length tc) 249 td,ag aK (.slice wa wn wc) 26 wt,ao (aG bC 4).row wt]) (cB:aD d=true) (hF:xh d F) (ht0:0≤t∧0≤c) (iG:kA d bl ms (td++[(((t.toNat:Nat):Int),((c.toNat:Nat):Int))]) wt (fun _ _ _=>False)) (htd:td.length≤4000000):
 Calls Tryz.prog 158 #[.pointer (some ⟨g,0,none⟩),.agg #[ai t,ai c]] w (aX fun v w'=>∃R4:List Int,∃Ru,∃Md:List (LR Int),∃Rt,∃mn2:Nat,∃uZ,∃Oq:List (Int×Int),∃uY Q7,∃x4:List (LR Bool),∃Q6,∃V5:Nat,v= .tuple #[]∧ax w [aQ g #[.slice fa fn fc,.slice ba bn bc,.slice ma mn mc,.slice ta td.length tc,.slice wa wn wc] 247,lV 198 25 fa fn fc F,ag (aw .i64) (.slice ba bn bc) 3 bl,ag aK (.slice ma mn mc) 25 ms,ao (aG (aw .i64) 3).row ms,ag jl (.slice ta td.length tc) 249 td,ag aK (.slice wa wn wc) 26 wt,ao (aG bC 4).row wt] w' [aQ g #[.slice fa fn fc,.slice ba bn bc,.slice Ru mn2 Rt,.slice uZ Oq.length uY,.slice Q7 V5 Q6] 247,lV 198 25 fa fn fc F,ag (aw .i64) (.slice ba bn bc) 3 R4,ag aK (.slice Ru mn2 Rt) 25 Md,ao (aG (aw .i64) 3).row Md,ag jl (.slice uZ Oq.length uY) 249 Oq,ag aK (.slice Q7 V5 Q6) 26 x4,ao (aG bC 4).row x4]∧(kA d R4 Md Oq x4 (fun _ _ _=>False))∧(ms.length≤Md.length∧Oq.length+ms.length*(aZ d).length=td.length+Md.length*(aZ d).length)):=by
 have Ho:=bh.1 cB
 have htb:=iG.wait.bd (((t.toNat:Nat):Int),((c.toNat:Nat):Int)) (by simp)
 have Hn:=(show t.toNat<ms.length by have h9:=htb.1;simp only at h9;omega)
 have TN:=(show c.toNat<(aZ d).length by have h9:=htb.2;simp only at h9;omega)
 have hwr:=iG.wait.row t.toNat Hn
 have PI:=nO d
 have hFl:=hF.len
 have hmb:=iG.part.bound
 have hwl:=iG.wait.len
 have af7:=iG.part.len
 refine tW hp Tryz.func158 (h:=fun H0=>ab 2 (h:=jf H0 (k:=fun w1 H1=>?_)))
 have H2:=H1.ps [6,7,0,1,2,3,4,5,8]
 refine o9 2 [3,0] 2 H2 (fun B R L e v=>∃w1:List (LR Bool),e=B∧av w L v ([ag aK (.slice wa wn wc) 26 w1]::[ao (aG bC 4).row w1]::R)∧(kA d bl ms td w1 (DR d bl t.toNat c.toNat))) ?_ ?_
 refine fI 0 H2 (h:=fun w2 H3=>c7 3 3 (H3.b 2) (D:=fun _ hC=>aM hC) (h:=c7 1 5 (H3.b 8) (D:=fun _ hC=>aM hC) (h:=cp 0 6 (H3.rt 0) (D:=fun _ hC=>cg t.toNat hC (cD:=oz)) (h:=cp 0 7 (H3.rt 0) (D:=fun _ hC=>cI hC) (h:=c7 1 9 (H3.b 8) (D:=fun _ hC=>aM hC) (h:=cp 0 10 (show bz bC w2 (.slice ((wt.getD t.toNat ae).a) ((wt.getD t.toNat ae).n) ((wt.getD t.toNat ae).c)) ((wt.getD t.toNat ae).xs) from (eK.own (H3.bU 1 rfl)).get ae t.toNat oz) (D:=fun _ hC=>cg c.toNat hC (cD:=oz)) (h:=?_)))))))
 have H4:Uu10:=H3.ei (f:=(aG bC 4).row) ae 1 t.toNat rfl oz
 refine dj 0 11 (D:=tX false H4 9 (xs:=((wt.getD t.toNat ae).xs)) (k:=fun w3 H5=>?_))
 have H6:Uu9x1:=(H5.eo (f:=(aG bC 4).row) ⟨(wt.getD t.toNat ae).a,(wt.getD t.toNat ae).n,(wt.getD t.toNat ae).c,((wt.getD t.toNat ae).xs).set c.toNat false⟩ 1 9 t.toNat rfl rfl rfl oz).re rfl
 have H7:Uu9x1:=H6.lh (((wt.getD t.toNat ae).xs).set c.toNat false) 0 t.toNat rfl oz
 refine ⟨trivial,?_⟩
 exact cA 1 (h:=by exact ⟨wt.set t.toNat ⟨(wt.getD t.toNat ae).a,(wt.getD t.toNat ae).n,(wt.getD t.toNat ae).c,((wt.getD t.toNat ae).xs).set c.toNat false⟩,rfl,(H7.re rfl),(by exact iG.take cB (rS.mk' oz oz))⟩)
 rintro Γ1 w4 ⟨w1,rfl,H8,acz⟩
 refine aN 7 rfl (o8 (fun a:Int=>ai a) (fun p:LR Int=> .slice p.a p.n p.c) fun w5 u3=>?_)
 have H9:=H8.nw u3
 have Tx:=bz.len (show bz (aw .i64) w5 (.slice ((ms.getD t.toNat ae).a) ((ms.getD t.toNat ae).n) ((ms.getD t.toNat ae).c)) ((ms.getD t.toNat ae).xs) from (eK.own (H9.bU 6 rfl)).get ae t.toNat oz)
 have JL:=iG.part.ue Hn
 unfold fv at JL
 refine fI 5 H9 (h:=fun w6 bW=>c7 3 3 (bW.b 2) (D:=fun _ hC=>aM hC) (h:=c7 1 5 (bW.b 8) (D:=fun _ hC=>aM hC) (h:=cp 0 6 (bW.rt 5) (D:=fun _ hC=>cg t.toNat hC (cD:=oz)) (h:=cp 0 7 (bW.rt 5) (D:=fun _ hC=>cI hC) (h:=?_)))))
 have bP:=bW.nw (ax.Hc (aw .i64) 3 ms.length w6)
 have ck:=bP.nr (aw .i64) 3
 have cU:=ck.ps [9,10,11,0,1,2,3,4,5,6,7,8]
 refine dA 5 [34,4,33,32,5,3,0] (fun B R L m e v=>∃q,∃em:List Int,∃ea ec,∃mm:List (Int×LR Int),∃ps:List (LR Int),e=(34,b7 q)::(4,.slice ea em.length ec)::B∧av w L v ([dU (fun a:Int=>ai a) (fun p:LR Int=> .slice p.a p.n p.c) w4.heap.size mm]::[ao Ah.row ps]::[ag (aw .i64) (.slice ea em.length ec) 3 em]::R)∧(q≤(ms.getD t.toNat ae).xs.length)∧(Kp ms.length bl (qE F c.toNat (fv ms t.toNat) q 0) ps em)∧(Sd mm ps)∧m=(ms.getD t.toNat ae).xs.length-q) (i:=⟨0,([]:List Int),none,0,[],List.replicate ms.length (ae:LR Int),rfl,(cU.re rfl),om,(by rw [qE.zero];exact Kp.start _ _),(by exact Sd.start _),rfl⟩) (h:=?_)
 rintro m1 Γ2 w7 ⟨q,em,ea,ec,mm,ps,rfl,cN,hq,hP,hmm,rfl⟩
 have Tx:=bz.len (show bz (aw .i64) w7 (.slice ((ms.getD t.toNat ae).a) ((ms.getD t.toNat ae).n) ((ms.getD t.toNat ae).c)) ((ms.getD t.toNat ae).xs) from (eK.own (cN.bU 9 rfl)).get ae t.toNat oz)
 have JL:=iG.part.ue Hn
 unfold fv at JL
 refine aC 6 (fun aey=>?_) fun aey=>?_
 have Tx:=bz.len (show bz (aw .i64) w7 (.slice ((ms.getD t.toNat ae).a) ((ms.getD t.toNat ae).n) ((ms.getD t.toNat ae).c)) ((ms.getD t.toNat ae).xs) from (eK.own (cN.bU 9 rfl)).get ae t.toNat oz)
 have JL:=iG.part.ue Hn
 unfold fv at JL
 refine ab 6 (h:=cg q (show bz (aw .i64) w7 (.slice ((ms.getD t.toNat ae).a) ((ms.getD t.toNat ae).n) ((ms.getD t.toNat ae).c)) ((ms.getD t.toNat ae).xs) from (eK.own (cN.bU 9 rfl)).get ae t.toNat oz) (k:=ab 0 (h:=cI (show bz (aw .i64) w7 (.slice ((ms.getD t.toNat ae).a) ((ms.getD t.toNat ae).n) ((ms.getD t.toNat ae).c)) ((ms.getD t.toNat ae).xs) from (eK.own (cN.bU 9 rfl)).get ae t.toNat oz) (k:=?_))))
 obtain ⟨ii,Hv,MN,_⟩:=(iG.part.mem t.toNat Hn ((ms.getD t.toNat ae).xs.getD q 0)).1 (ak (by show q<(ms.getD t.toNat ae).xs.length;omega))
 have hFr:=hF.row c.toNat oz
 have PX:=bz.len (show bz (aw .i64) w7 (.slice (((F.getD c.toNat ae).xs.getD ((ms.getD t.toNat ae).xs.getD q 0).toNat ae).a) (((F.getD c.toNat ae).xs.getD ((ms.getD t.toNat ae).xs.getD q 0).toNat ae).n) (((F.getD c.toNat ae).xs.getD ((ms.getD t.toNat ae).xs.getD q 0).toNat ae).c)) (((F.getD c.toNat ae).xs.getD ((ms.getD t.toNat ae).xs.getD q 0).toNat ae).xs) from (kr (cN.bU 6 rfl) (show (F.getD c.toNat ae)∈F from ak oz)).get ae (((ms.getD t.toNat ae).xs.getD q 0).toNat) oz)
 have FB:=hF.mem c.toNat oz ii Hv
 have rA:=cj (hF.nd c.toNat oz ii Hv) (m:=(List.range d.acc.length).map fun i:Nat=>(i:Int)) (fun x hx=>by obtain ⟨j,hj,e,_⟩:=(FB x).1 hx;exact List.mem_map.2 ⟨j,List.mem_range.2 hj,e.symm⟩)
 have MS:sb F c.toNat ((ii:Nat):Int)=((F.getD c.toNat ae).xs.getD ((ms.getD t.toNat ae).xs.getD q 0).toNat ae).xs:=by unfold sb;rw [←MN]
 rw [MS] at rA FB
 simp only [List.length_map,List.length_range] at rA
 refine fI 4 cN (h:=fun w8 dt=>c7 3 3 (dt.b 5) (D:=fun _ hC=>aM hC) (h:=c7 1 5 (dt.b 11) (D:=fun _ hC=>aM hC) (h:=cp 0 6 (wi (dt.dr 6)) (D:=fun _ hC=>cg c.toNat hC (cD:=oz)) (h:=cp 0 7 (wi (dt.dr 6)) (D:=fun _ hC=>cI hC) (h:=cp 1 9 (show bz aK w8 (.slice ((F.getD c.toNat ae).a) ((F.getD c.toNat ae).n) ((F.getD c.toNat ae).c)) ((F.getD c.toNat ae).xs) from (C7 (dt.dr 6)).get ae c.toNat oz) (D:=fun _ hC=>cg ((((ms.getD t.toNat ae).xs).getD q 0).toNat) hC (cD:=oz)) (h:=cp 0 10 (show bz aK w8 (.slice ((F.getD c.toNat ae).a) ((F.getD c.toNat ae).n) ((F.getD c.toNat ae).c)) ((F.getD c.toNat ae).xs) from (C7 (dt.dr 6)).get ae c.toNat oz) (D:=fun _ hC=>cI hC) (h:=dA 5 [50,4,49,48,34,33,32,5,3,0] (fun B R L m e v=>∃r,∃en:List Int,∃na nc,∃mo:List (Int×LR Int),∃pr:List (LR Int),e=(50,b7 r)::(4,.slice na en.length nc)::B∧av w L v ([dU (fun a:Int=>ai a) (fun p:LR Int=> .slice p.a p.n p.c) w4.heap.size mo]::[ao Ah.row pr]::[ag (aw .i64) (.slice na en.length nc) 3 en]::R)∧(r≤((F.getD c.toNat ae).xs.getD ((ms.getD t.toNat ae).xs.getD q 0).toNat ae).xs.length)∧(Kp ms.length bl (qE F c.toNat (fv ms t.toNat) q r) pr en)∧(Sd mo pr)∧m=((F.getD c.toNat ae).xs.getD ((ms.getD t.toNat ae).xs.getD q 0).toNat ae).xs.length-r) (i:=⟨0,em,ea,ec,mm,ps,rfl,dt,om,(by exact hP),(by exact hmm),rfl⟩) (h:=?_))))))))
 rintro m2 Γ3 w9 ⟨r,en,na,nc,mo,pr,rfl,dw,hr,Av,JK,rfl⟩
 obtain ⟨ii,Hv,MN,_⟩:=(iG.part.mem t.toNat Hn ((ms.getD t.toNat ae).xs.getD q 0)).1 (ak (by show q<(ms.getD t.toNat ae).xs.length;omega))
 have hFr:=hF.row c.toNat oz
 have PX:=bz.len (show bz (aw .i64) w9 (.slice (((F.getD c.toNat ae).xs.getD ((ms.getD t.toNat ae).xs.getD q 0).toNat ae).a) (((F.getD c.toNat ae).xs.getD ((ms.getD t.toNat ae).xs.getD q 0).toNat ae).n) (((F.getD c.toNat ae).xs.getD ((ms.getD t.toNat ae).xs.getD q 0).toNat ae).c)) (((F.getD c.toNat ae).xs.getD ((ms.getD t.toNat ae).xs.getD q 0).toNat ae).xs) from (kr (dw.bU 6 rfl) (show (F.getD c.toNat ae)∈F from ak oz)).get ae (((ms.getD t.toNat ae).xs.getD q 0).toNat) oz)
 have FB:=hF.mem c.toNat oz ii Hv
 have rA:=cj (hF.nd c.toNat oz ii Hv) (m:=(List.range d.acc.length).map fun i:Nat=>(i:Int)) (fun x hx=>by obtain ⟨j,hj,e,_⟩:=(FB x).1 hx;exact List.mem_map.2 ⟨j,List.mem_range.2 hj,e.symm⟩)
 have MS:sb F c.toNat ((ii:Nat):Int)=((F.getD c.toNat ae).xs.getD ((ms.getD t.toNat ae).xs.getD q 0).toNat ae).xs:=by unfold sb;rw [←MN]
 rw [MS] at rA FB
 simp only [List.length_map,List.length_range] at rA
 refine aC 6 (fun UY=>?_) fun UY=>?_
 obtain ⟨ii,Hv,MN,_⟩:=(iG.part.mem t.toNat Hn ((ms.getD t.toNat ae).xs.getD q 0)).1 (ak (by show q<(ms.getD t.toNat ae).xs.length;omega))
 have hFr:=hF.row c.toNat oz
 have PX:=bz.len (show bz (aw .i64) w9 (.slice (((F.getD c.toNat ae).xs.getD ((ms.getD t.toNat ae).xs.getD q 0).toNat ae).a) (((F.getD c.toNat ae).xs.getD ((ms.getD t.toNat ae).xs.getD q 0).toNat ae).n) (((F.getD c.toNat ae).xs.getD ((ms.getD t.toNat ae).xs.getD q 0).toNat ae).c)) (((F.getD c.toNat ae).xs.getD ((ms.getD t.toNat ae).xs.getD q 0).toNat ae).xs) from (kr (dw.bU 6 rfl) (show (F.getD c.toNat ae)∈F from ak oz)).get ae (((ms.getD t.toNat ae).xs.getD q 0).toNat) oz)
 have FB:=hF.mem c.toNat oz ii Hv
 have rA:=cj (hF.nd c.toNat oz ii Hv) (m:=(List.range d.acc.length).map fun i:Nat=>(i:Int)) (fun x hx=>by obtain ⟨j,hj,e,_⟩:=(FB x).1 hx;exact List.mem_map.2 ⟨j,List.mem_range.2 hj,e.symm⟩)
 have MS:sb F c.toNat ((ii:Nat):Int)=((F.getD c.toNat ae).xs.getD ((ms.getD t.toNat ae).xs.getD q 0).toNat ae).xs:=by unfold sb;rw [←MN]
 rw [MS] at rA FB
 simp only [List.length_map,List.length_range] at rA
 refine ab 6 (h:=cg r (show bz (aw .i64) w9 (.slice ((((F.getD c.toNat ae).xs).getD ((((ms.getD t.toNat ae).xs).getD q 0).toNat) ae).a) ((((F.getD c.toNat ae).xs).getD ((((ms.getD t.toNat ae).xs).getD q 0).toNat) ae).n) ((((F.getD c.toNat ae).xs).getD ((((ms.getD t.toNat ae).xs).getD q 0).toNat) ae).c)) ((((F.getD c.toNat ae).xs).getD ((((ms.getD t.toNat ae).xs).getD q 0).toNat) ae).xs) from (kr (dw.dr 6) (show (F.getD c.toNat ae)∈F from ak oz)).get ae ((((ms.getD t.toNat ae).xs).getD q 0).toNat) oz) (k:=ab 0 (h:=cI (show bz (aw .i64) w9 (.slice ((((F.getD c.toNat ae).xs).getD ((((ms.getD t.toNat ae).xs).getD q 0).toNat) ae).a) ((((F.getD c.toNat ae).xs).getD ((((ms.getD t.toNat ae).xs).getD q 0).toNat) ae).n) ((((F.getD c.toNat ae).xs).getD ((((ms.getD t.toNat ae).xs).getD q 0).toNat) ae).c)) ((((F.getD c.toNat ae).xs).getD ((((ms.getD t.toNat ae).xs).getD q 0).toNat) ae).xs) from (kr (dw.dr 6) (show (F.getD c.toNat ae)∈F from ak oz)).get ae ((((ms.getD t.toNat ae).xs).getD q 0).toNat) oz) (k:=?_))))
 obtain ⟨jj,hjj,hje,_⟩:=(FB (((F.getD c.toNat ae).xs.getD ((ms.getD t.toNat ae).xs.getD q 0).toNat ae).xs.getD r 0)).1 (ak oz)
 refine ab 8 (h:=aM (dw.b 5) (k:=ab 1 (h:=cg ((((((F.getD c.toNat ae).xs).getD ((((ms.getD t.toNat ae).xs).getD q 0).toNat) ae).xs).getD r 0).toNat) (dw.rt 7) (cD:=oz) (k:=ab 0 (h:=cI (dw.rt 7) (k:=?_))))))
 have hbr:=iG.part.kC jj hjj
 obtain ⟨bb,JQ⟩:∃bb:Nat,bl.getD (((F.getD c.toNat ae).xs.getD ((ms.getD t.toNat ae).xs.getD q 0).toNat ae).xs.getD r 0).toNat 0=((bb:Nat):Int):=⟨(bl.getD (((F.getD c.toNat ae).xs.getD ((ms.getD t.toNat ae).xs.getD q 0).toNat ae).xs.getD r 0).toNat 0).toNat,by rw [hje,Int.toNat_natCast];omega⟩
 have sL:bb<ms.length:=by rw [hje,Int.toNat_natCast] at JQ;omega
 have OB:=Av.len
 have ahN:=bz.len (show bz (aw .i64) w9 (.slice ((pr.getD bb ae).a) ((pr.getD bb ae).n) ((pr.getD bb ae).c)) ((pr.getD bb ae).xs) from (eK.own (dw.bU 1 rfl)).get ae bb oz)
 have hLl:=Io hF iG.part cB (show c.toNat<F.length by omega) Hn q r
 have aiF:=Av.ue
 refine aN 8 rfl (oy (ek:=(fun a:Int=>ai a)) (fy:=(fun p:LR Int=> .slice p.a p.n p.c)) (bl.getD ((((((F.getD c.toNat ae).xs).getD ((((ms.getD t.toNat ae).xs).getD q 0).toNat) ae).xs).getD r 0).toNat) 0) ae (pr.getD bb ae) (by rw [JQ];exact JK bb oz) ug Tryz.underlying277 Ej rfl rfl (dw.oh 0 rfl) (aC 4 (fun UW=>?_) fun UW=>?_))
 refine ab 3 (h:=dL (aw .i64) [bl.getD ((((((F.getD c.toNat ae).xs).getD ((((ms.getD t.toNat ae).xs).getD q 0).toNat) ae).xs).getD r 0).toNat) 0] dw (k:=fun iy fH=>ab 0 (h:=kJ fH 2 (fH.rt 12) (hb:=eR) (kW:=eR) (k:=fun a1 c1 gS aeZ=>?_))))
 have il:=(aeZ.drop 12).no
 refine cv 3 [4,10,9,50,49,48,34,33,32,5,3,0] (h:=?_)
 have acw:(pr.getD bb ae).xs.length≤4097*4096:=by rw [Av.val bb sL];exact Nat.le_trans (List.length_filter_le _ _) hLl
 refine aN 5 rfl (oy (ek:=(fun a:Int=>ai a)) (fy:=(fun p:LR Int=> .slice p.a p.n p.c)) (bl.getD ((((((F.getD c.toNat ae).xs).getD ((((ms.getD t.toNat ae).xs).getD q 0).toNat) ae).xs).getD r 0).toNat) 0) ae (pr.getD bb ae) (by rw [JQ];exact JK bb oz) ug Tryz.underlying277 Ej rfl rfl (il.oh 0 rfl) (ab 1 (h:=dL (aw .i64) [((((F.getD c.toNat ae).xs).getD ((((ms.getD t.toNat ae).xs).getD q 0).toNat) ae).xs).getD r 0] il (k:=fun jz jh=>?_))))
 have eH:av _ _ _ [[_],[_],[_],[_],[_],[_],[_],[_],[_],[_],[_],[_],[],[_],[_]]:=jh.ei (f:=Ah.row) ae 1 bb rfl oz
 refine aN 0 rfl (ff (T:=(aw .i64)) (xs:=((pr.getD bb ae).xs)) (ys:=[((((F.getD c.toNat ae).xs).getD ((((ms.getD t.toNat ae).xs).getD q 0).toNat) ae).xs).getD r 0]) rfl Tryz.underlying25 xv rfl rfl rfl (eH.rt 14).len (eH.ow 14) (eH.rt 13) eR eR fun a2 c2 kK u7=>?_)
 have lf:=((eH.un 14 u7).drop 13).no
 refine zO 0 rfl (gN (ek:=(fun a:Int=>ai a)) (fy:=(fun p:LR Int=> .slice p.a p.n p.c)) (bl.getD ((((((F.getD c.toNat ae).xs).getD ((((ms.getD t.toNat ae).xs).getD q 0).toNat) ae).xs).getD r 0).toNat) 0) ⟨a2,(((pr.getD bb ae).xs)++[((((F.getD c.toNat ae).xs).getD ((((ms.getD t.toNat ae).xs).getD q 0).toNat) ae).xs).getD r 0]).length,c2,((pr.getD bb ae).xs)++[((((F.getD c.toNat ae).xs).getD ((((ms.getD t.toNat ae).xs).getD q 0).toNat) ae).xs).getD r 0]⟩ ug Tryz.underlying277 rfl rfl rfl (lf.dr 0) fun nH u8=>?_)
 have ji:=lf.un 0 u8
 have oI:Uu12x3:=(ji.eo (f:=Ah.row) (⟨a2,(((pr.getD bb ae).xs)++[((((F.getD c.toNat ae).xs).getD ((((ms.getD t.toNat ae).xs).getD q 0).toNat) ae).xs).getD r 0]).length,c2,((pr.getD bb ae).xs)++[((((F.getD c.toNat ae).xs).getD ((((ms.getD t.toNat ae).xs).getD q 0).toNat) ae).xs).getD r 0]⟩:LR Int) 1 14 bb rfl rfl rfl oz).re rfl
 obtain ⟨ii,Hv,MN,_⟩:=(iG.part.mem t.toNat Hn ((ms.getD t.toNat ae).xs.getD q 0)).1 (ak (by show q<(ms.getD t.toNat ae).xs.length;omega))
 have hFr:=hF.row c.toNat oz
 have PX:=bz.len (show bz (aw .i64) nH (.slice (((F.getD c.toNat ae).xs.getD ((ms.getD t.toNat ae).xs.getD q 0).toNat ae).a) (((F.getD c.toNat ae).xs.getD ((ms.getD t.toNat ae).xs.getD q 0).toNat ae).n) (((F.getD c.toNat ae).xs.getD ((ms.getD t.toNat ae).xs.getD q 0).toNat ae).c)) (((F.getD c.toNat ae).xs.getD ((ms.getD t.toNat ae).xs.getD q 0).toNat ae).xs) from (kr (oI.bU 6 rfl) (show (F.getD c.toNat ae)∈F from ak oz)).get ae (((ms.getD t.toNat ae).xs.getD q 0).toNat) oz)
 have FB:=hF.mem c.toNat oz ii Hv
 have rA:=cj (hF.nd c.toNat oz ii Hv) (m:=(List.range d.acc.length).map fun i:Nat=>(i:Int)) (fun x hx=>by obtain ⟨j,hj,e,_⟩:=(FB x).1 hx;exact List.mem_map.2 ⟨j,List.mem_range.2 hj,e.symm⟩)
 have MS:sb F c.toNat ((ii:Nat):Int)=((F.getD c.toNat ae).xs.getD ((ms.getD t.toNat ae).xs.getD q 0).toNat ae).xs:=by unfold sb;rw [←MN]
 rw [MS] at rA FB
 simp only [List.length_map,List.length_range] at rA
 exact ab 4 (h:=aV (k:=cm 2 (h:=by exact ⟨r+1,en++[bl.getD ((((((F.getD c.toNat ae).xs).getD ((((ms.getD t.toNat ae).xs).getD q 0).toNat) ae).xs).getD r 0).toNat) 0],a1,c1,iC mo (bl.getD ((((((F.getD c.toNat ae).xs).getD ((((ms.getD t.toNat ae).xs).getD q 0).toNat) ae).xs).getD r 0).toNat) 0) ⟨a2,(((pr.getD bb ae).xs)++[((((F.getD c.toNat ae).xs).getD ((((ms.getD t.toNat ae).xs).getD q 0).toNat) ae).xs).getD r 0]).length,c2,((pr.getD bb ae).xs)++[((((F.getD c.toNat ae).xs).getD ((((ms.getD t.toNat ae).xs).getD q 0).toNat) ae).xs).getD r 0]⟩,pr.set bb ⟨a2,(((pr.getD bb ae).xs)++[((((F.getD c.toNat ae).xs).getD ((((ms.getD t.toNat ae).xs).getD q 0).toNat) ae).xs).getD r 0]).length,c2,((pr.getD bb ae).xs)++[((((F.getD c.toNat ae).xs).getD ((((ms.getD t.toNat ae).xs).getD q 0).toNat) ae).xs).getD r 0]⟩,rfl,(oI.re rfl),om,(by first|(have h8:(pr.getD bb ae).xs=[]:=List.length_eq_zero_iff.1 oz;rw [qE.step (by show r<((F.getD c.toNat ae).xs.getD ((ms.getD t.toNat ae).xs.getD q 0).toNat ae).xs.length;omega),JQ];exact Av.put (x:=(((F.getD c.toNat ae).xs.getD ((ms.getD t.toNat ae).xs.getD q 0).toNat ae).xs.getD r 0)) JQ sL _ (by rw [if_pos h8]))|(have h8:¬(pr.getD bb ae).xs=[]:=(fun e=>by have h7:=congrArg List.length e;simp only [List.length_nil] at h7;omega);rw [qE.step (by show r<((F.getD c.toNat ae).xs.getD ((ms.getD t.toNat ae).xs.getD q 0).toNat ae).xs.length;omega)];exact Av.put (x:=(((F.getD c.toNat ae).xs.getD ((ms.getD t.toNat ae).xs.getD q 0).toNat ae).xs.getD r 0)) JQ sL _ (by rw [if_neg h8]))),(by rw [JQ];exact JK.put oz),rfl⟩)))
 have acw:(pr.getD bb ae).xs.length≤4097*4096:=by rw [Av.val bb sL];exact Nat.le_trans (List.length_filter_le _ _) hLl
 refine aN 7 rfl (oy (ek:=(fun a:Int=>ai a)) (fy:=(fun p:LR Int=> .slice p.a p.n p.c)) (bl.getD ((((((F.getD c.toNat ae).xs).getD ((((ms.getD t.toNat ae).xs).getD q 0).toNat) ae).xs).getD r 0).toNat) 0) ae (pr.getD bb ae) (by rw [JQ];exact JK bb oz) ug Tryz.underlying277 Ej rfl rfl (dw.oh 0 rfl) (ab 1 (h:=dL (aw .i64) [((((F.getD c.toNat ae).xs).getD ((((ms.getD t.toNat ae).xs).getD q 0).toNat) ae).xs).getD r 0] dw (k:=fun tU nF=>?_))))
 have nE:Uu14:=nF.ei (f:=Ah.row) ae 1 bb rfl oz
 refine aN 0 rfl (ff (T:=(aw .i64)) (xs:=((pr.getD bb ae).xs)) (ys:=[((((F.getD c.toNat ae).xs).getD ((((ms.getD t.toNat ae).xs).getD q 0).toNat) ae).xs).getD r 0]) rfl Tryz.underlying25 xv rfl rfl rfl (nE.rt 13).len (nE.ow 13) (nE.rt 12) eR eR fun a3 c3 ur uU=>?_)
 have pM:=((nE.un 13 uU).drop 12).no
 refine zO 0 rfl (gN (ek:=(fun a:Int=>ai a)) (fy:=(fun p:LR Int=> .slice p.a p.n p.c)) (bl.getD ((((((F.getD c.toNat ae).xs).getD ((((ms.getD t.toNat ae).xs).getD q 0).toNat) ae).xs).getD r 0).toNat) 0) ⟨a3,(((pr.getD bb ae).xs)++[((((F.getD c.toNat ae).xs).getD ((((ms.getD t.toNat ae).xs).getD q 0).toNat) ae).xs).getD r 0]).length,c3,((pr.getD bb ae).xs)++[((((F.getD c.toNat ae).xs).getD ((((ms.getD t.toNat ae).xs).getD q 0).toNat) ae).xs).getD r 0]⟩ ug Tryz.underlying277 rfl rfl rfl (pM.dr 0) fun xq xr=>?_)
 have pL:=pM.un 0 xr
 have rW:Uu12x2:=(pL.eo (f:=Ah.row) (⟨a3,(((pr.getD bb ae).xs)++[((((F.getD c.toNat ae).xs).getD ((((ms.getD t.toNat ae).xs).getD q 0).toNat) ae).xs).getD r 0]).length,c3,((pr.getD bb ae).xs)++[((((F.getD c.toNat ae).xs).getD ((((ms.getD t.toNat ae).xs).getD q 0).toNat) ae).xs).getD r 0]⟩:LR Int) 1 13 bb rfl rfl rfl oz).re rfl
 refine cv 3 [50,4,49,48,34,33,32,5,3,0] (h:=?_)
 obtain ⟨ii,Hv,MN,_⟩:=(iG.part.mem t.toNat Hn ((ms.getD t.toNat ae).xs.getD q 0)).1 (ak (by show q<(ms.getD t.toNat ae).xs.length;omega))
 have hFr:=hF.row c.toNat oz
 have PX:=bz.len (show bz (aw .i64) xq (.slice (((F.getD c.toNat ae).xs.getD ((ms.getD t.toNat ae).xs.getD q 0).toNat ae).a) (((F.getD c.toNat ae).xs.getD ((ms.getD t.toNat ae).xs.getD q 0).toNat ae).n) (((F.getD c.toNat ae).xs.getD ((ms.getD t.toNat ae).xs.getD q 0).toNat ae).c)) (((F.getD c.toNat ae).xs.getD ((ms.getD t.toNat ae).xs.getD q 0).toNat ae).xs) from (kr (rW.bU 6 rfl) (show (F.getD c.toNat ae)∈F from ak oz)).get ae (((ms.getD t.toNat ae).xs.getD q 0).toNat) oz)
 have FB:=hF.mem c.toNat oz ii Hv
 have rA:=cj (hF.nd c.toNat oz ii Hv) (m:=(List.range d.acc.length).map fun i:Nat=>(i:Int)) (fun x hx=>by obtain ⟨j,hj,e,_⟩:=(FB x).1 hx;exact List.mem_map.2 ⟨j,List.mem_range.2 hj,e.symm⟩)
 have MS:sb F c.toNat ((ii:Nat):Int)=((F.getD c.toNat ae).xs.getD ((ms.getD t.toNat ae).xs.getD q 0).toNat ae).xs:=by unfold sb;rw [←MN]
 rw [MS] at rA FB
 simp only [List.length_map,List.length_range] at rA
 exact ab 1 (h:=aV (k:=cm 2 (h:=by exact ⟨r+1,en,na,nc,iC mo (bl.getD ((((((F.getD c.toNat ae).xs).getD ((((ms.getD t.toNat ae).xs).getD q 0).toNat) ae).xs).getD r 0).toNat) 0) ⟨a3,(((pr.getD bb ae).xs)++[((((F.getD c.toNat ae).xs).getD ((((ms.getD t.toNat ae).xs).getD q 0).toNat) ae).xs).getD r 0]).length,c3,((pr.getD bb ae).xs)++[((((F.getD c.toNat ae).xs).getD ((((ms.getD t.toNat ae).xs).getD q 0).toNat) ae).xs).getD r 0]⟩,pr.set bb ⟨a3,(((pr.getD bb ae).xs)++[((((F.getD c.toNat ae).xs).getD ((((ms.getD t.toNat ae).xs).getD q 0).toNat) ae).xs).getD r 0]).length,c3,((pr.getD bb ae).xs)++[((((F.getD c.toNat ae).xs).getD ((((ms.getD t.toNat ae).xs).getD q 0).toNat) ae).xs).getD r 0]⟩,rfl,(rW.re rfl),om,(by first|(have h8:(pr.getD bb ae).xs=[]:=List.length_eq_zero_iff.1 oz;rw [qE.step (by show r<((F.getD c.toNat ae).xs.getD ((ms.getD t.toNat ae).xs.getD q 0).toNat ae).xs.length;omega),JQ];exact Av.put (x:=(((F.getD c.toNat ae).xs.getD ((ms.getD t.toNat ae).xs.getD q 0).toNat ae).xs.getD r 0)) JQ sL _ (by rw [if_pos h8]))|(have h8:¬(pr.getD bb ae).xs=[]:=(fun e=>by have h7:=congrArg List.length e;simp only [List.length_nil] at h7;omega);rw [qE.step (by show r<((F.getD c.toNat ae).xs.getD ((ms.getD t.toNat ae).xs.getD q 0).toNat ae).xs.length;omega)];exact Av.put (x:=(((F.getD c.toNat ae).xs.getD ((ms.getD t.toNat ae).xs.getD q 0).toNat ae).xs.getD r 0)) JQ sL _ (by rw [if_neg h8]))),(by rw [JQ];exact JK.put oz),rfl⟩)))
 have Tx:=bz.len (show bz (aw .i64) w9 (.slice ((ms.getD t.toNat ae).a) ((ms.getD t.toNat ae).n) ((ms.getD t.toNat ae).c)) ((ms.getD t.toNat ae).xs) from (eK.own (dw.bU 9 rfl)).get ae t.toNat oz)
 have JL:=iG.part.ue Hn
 unfold fv at JL
 exact ab 4 (h:=aV (k:=cm 2 (h:=by exact ⟨q+1,en,na,nc,mo,pr,rfl,dw,om,(by rw [qE.next (by show q<(ms.getD t.toNat ae).xs.length;omega) (by show¬r<((F.getD c.toNat ae).xs.getD ((ms.getD t.toNat ae).xs.getD q 0).toNat ae).xs.length;omega)];exact Av),(by exact JK),rfl⟩)))
 have tS:=cN.sn
 have XB:¬q<(fv ms t.toNat).length:=(by show¬q<(ms.getD t.toNat ae).xs.length;omega)
 have hL:∀x,x∈(qE F c.toNat (fv ms t.toNat) q 0)↔∃i:Nat,i<d.acc.length∧x=(i:Int)∧bl.getD (dl d c.toNat i) 0=((t.toNat:Nat):Int):=by rw [qE.all XB];exact Pb hF iG.part oz Hn cB
 have RS:(qE F c.toNat (fv ms t.toNat) q 0).Nodup:=by rw [qE.all XB];exact Jb hF iG.part oz Hn
 have aiE:fn=F.length:=bz.len (wi (tS.bU 6 rfl))
 have RJ:∀j,j<em.length→0≤em.getD j 0:=fun j hj=>by obtain ⟨x,hx,e⟩:=(hP.mt _).1 (ak (d:=0) hj);obtain ⟨i,hi,rfl,_⟩:=(hL x).1 hx;have h9:=iG.part.kC i hi;rw [Int.toNat_natCast] at e;omega
 have aiG:=hP.ue
 have ai1:=Io hF iG.part cB (show c.toNat<F.length by omega) Hn q 0
 have hLi:∀x,x∈(qE F c.toNat (fv ms t.toNat) q 0)→∃i:Nat,i<d.acc.length∧x=(i:Int):=fun x hx=>by obtain ⟨i,hi,e,_⟩:=(hL x).1 hx;exact ⟨i,hi,e⟩
 have pK:=tS.ps [1,3,4,5,7,8,9,10,0,2,6,11]
 refine dA 10 [82,81,80,5,0] (fun B R L m e v=>∃q2,∃pq:List (LR Int),∃bq:List Int,∃xG,∃mq:List (LR Int),∃xF,∃xE:Nat,∃uw,∃Bq:List (Int×Int),∃uv xk,∃wq:List (LR Bool),∃xj,∃xi:Nat,e=(82,b7 q2)::B∧av w L v ([ao Ah.row pq]::[ag aK (.slice xk xi xj) 26 wq]::[ao (aG bC 4).row wq]::[aQ g #[.slice fa fn fc,.slice ba bn bc,.slice xG xE xF,.slice uw Bq.length uv,.slice xk xi xj] 247]::[ag (aw .i64) (.slice ba bn bc) 3 bq]::[ag aK (.slice xG xE xF) 25 mq]::[ao (aG (aw .i64) 3).row mq]::[ag jl (.slice uw Bq.length uv) 249 Bq]::R)∧(q2≤em.length)∧(l6 d bl ms td (qE F c.toNat (fv ms t.toNat) q 0) em (DR d bl t.toNat c.toNat) bq mq Bq wq q2)∧(pq.length=ms.length∧∀j,q2≤j→j<em.length→pq.getD (em.getD j 0).toNat ae=ps.getD (em.getD j 0).toNat ae)∧m=em.length-q2) (i:=⟨0,ps,bl,ma,ms,mc,mn,ta,td,tc,wa,w1,wc,wn,rfl,pK,om,(by exact l6.start acz hP.mt),(by exact ⟨hP.len,fun j _ _=>rfl⟩),rfl⟩) (h:=?_)
 rintro m3 Γ4 zn ⟨q2,pq,bq,xG,mq,xF,xE,uw,Bq,uv,xk,wq,xj,xi,rfl,mf,Am,hT,VF,rfl⟩
 refine aC 6 (fun mY=>?_) fun mY=>?_
 refine ab 6 (h:=cg q2 (mf.rt 9) (k:=ab 0 (h:=cI (mf.rt 9) (k:=?_))))
 obtain ⟨b2,xm⟩:∃b2:Nat,em.getD q2 0=((b2:Nat):Int):=(by obtain ⟨x,hx,e⟩:=(hP.mt _).1 (ak (d:=0) (show q2<em.length by omega));obtain ⟨i,hi,rfl,_⟩:=(hL x).1 hx;have h9:=iG.part.kC i hi;rw [Int.toNat_natCast] at e;exact ⟨(em.getD q2 0).toNat,by omega⟩)
 have CZ:b2<ms.length:=by obtain ⟨x,hx,e⟩:=(hP.mt _).1 (ak (d:=0) (show q2<em.length by omega));obtain ⟨i,hi,rfl,_⟩:=(hL x).1 hx;have h9:=iG.part.kC i hi;rw [Int.toNat_natCast] at e;omega
 have P4:(em.getD q2 0).toNat=b2:=by omega
 have CO:pq.getD b2 ae=ps.getD b2 ae:=by have h9:=VF.2 q2 (Nat.le_refl _) oz;rwa [P4] at h9
 have XF:=VF.1
 have hmp:(getM mm ((b2:Nat):Int)).getD ae=pq.getD b2 ae:=(hmm b2 (by rw [hP.len];exact CZ)).trans CO.symm
 have hmq:=hT.QB.1
 have ah1:=hT.iG.part.bound
 have ahO:=bz.len (show bz (aw .i64) zn (.slice ((pq.getD b2 ae).a) ((pq.getD b2 ae).n) ((pq.getD b2 ae).c)) ((pq.getD b2 ae).xs) from (eK.own (mf.bU 0 rfl)).get ae b2 oz)
 have ah6:=bz.len (show bz (aw .i64) zn (.slice ((mq.getD b2 ae).a) ((mq.getD b2 ae).n) ((mq.getD b2 ae).c)) ((mq.getD b2 ae).xs) from (eK.own (mf.bU 6 rfl)).get ae b2 oz)
 refine fI 4 mf (h:=fun zm rV=>?_)
 refine aa1 2 2 (fun w'=>oH w' (fun a:Int=>ai a) (fun p:LR Int=> .slice p.a p.n p.c) w4.heap.size mm) (rV.oh 8 rfl) ⟨_,_,_,rfl,rfl,rfl,rfl,rfl,rfl⟩ (fun _ hC=>oy (ek:=(fun a:Int=>ai a)) (fy:=(fun p:LR Int=> .slice p.a p.n p.c)) (em.getD q2 0) ae (pq.getD b2 ae) (by rw [xm];exact hmp) ug Tryz.underlying277 Ej rfl rfl hC ⟨rfl,rfl⟩) (c7 4 7 (rV.b 3) (D:=fun _ hC=>aM hC) (h:=cp 1 9 (rV.rt 5) (D:=fun _ hC=>cg b2 hC (cD:=(by first|exact xm|omega)) (hj:=(by first|exact xm|omega))) (h:=cp 0 10 (rV.rt 5) (D:=fun _ hC=>cI hC (hj:=(by first|exact xm|omega))) (h:=aC 4 (fun wV=>?_) fun wV=>?_))))
 have pY:Uu13:=rV.ei (f:=Ah.row) ae 0 b2 rfl oz
 have VJ:=zZ hT iG.part (fun x hx=>by obtain ⟨i,hi,e,_⟩:=(hL x).1 hx;exact ⟨i,hi,e⟩) hP oz xm CZ
 have hqm:=hT.iG.part.ue (b:=b2) oz
 have hqw:=hT.iG.wait.len
 have ahF:=hT.iG.part.len
 have af4:mq.length*(aZ d).length≤4096*259:=Nat.mul_le_mul oz oz
 have aiL:=hT.QB.2
 refine aN 5 rfl (oy (ek:=(fun a:Int=>ai a)) (fy:=(fun p:LR Int=> .slice p.a p.n p.c)) (em.getD q2 0) ae (pq.getD b2 ae) (by rw [xm];exact hmp) ug Tryz.underlying277 Ej rfl rfl (pY.oh 8 rfl) ?_)
 have xV:av _ _ _ [[_,_,_,_,_,_,_],[_],[_],[_],[_],[_],[_]]:=av.of (ax.iW pY (l:=[3,4,5,6,7,1,2,0,8,9,10,11,12]) rfl rfl) rfl
 refine ab 0 (h:=aA (c:=Fu _ _ _ ((pq.getD b2 ae).xs) _ ((pq.getD b2 ae).n) fa fc fn ba bq bc bn xG mq xF xE uw Bq uv xk wq xj xi zm (xV.CQ 0 6 rfl rfl rfl) oz hqw (fun i hi=>by rw [hT.iG.wait.row i oz];omega) (fun x hx=>by rw [CO] at hx;obtain ⟨i,hi,e,_⟩:=(hT.iG.part.mem b2 oz x).1 ((VJ.1 x).1 hx).2;omega) oz oz oz (by rw [P4];unfold fv at hqm;omega)) (k:=?_))
 rintro _ Ix ⟨pW,jB,tp,jA,gV,yh,gU,iT,eQ,iS,Bn,rfl,tV,q1⟩
 have qF:av _ _ _ [[_,_,_,_,_,_,_],[_],[_],[_],[_],[_],[]]:=(xV.fE (A':=[aQ g #[.slice fa fn fc,.slice ba bn bc,.slice jB tp.length jA,.slice gV yh.length gU,.slice iT Bn iS] 247,ag (aw .i64) (.slice ba bn bc) 3 pW,ag aK (.slice jB tp.length jA) 25 tp,ao (aG (aw .i64) 3).row tp,ag jl (.slice gV yh.length gU) 249 yh,ag aK (.slice iT Bn iS) 26 eQ,ao (aG bC 4).row eQ]) (B':=[]) (C:=[]) 0 6 rfl rfl rfl tV).re rfl
 refine ab 4 (h:=aV (k:=?_))
 have A5:=qF.nr (aw .i64) 3
 have Bh:av _ _ _ [[_,_,_,_,_,_,_],[_],[_],[_],[_],[_],[],[]]:=(A5.eo (f:=Ah.row) (ae:LR Int) 1 7 b2 rfl rfl rfl oz).re rfl
 have xg:Uu12x2:=Bh.re rfl
 exact cm 2 (h:=by exact ⟨q2+1,pq.set b2 ae,pW,jB,tp,jA,tp.length,gV,yh,gU,iT,eQ,iS,Bn,rfl,(xg.pm [7,5,6,0,1,2,3,4,8,9,10,11] rfl rfl),om,(by first|(rw [P4,CO,show fn=(aZ d).length by omega] at q1;exact hT.split cB iG.part iG.snd hL TN RS hP oz xm CZ (by show (ps.getD b2 ae).xs.length<(mq.getD b2 ae).xs.length;rw [←CO];omega) q1)|exact hT.skip iG.part hLi RS hP oz xm CZ (by show¬(ps.getD b2 ae).xs.length<(mq.getD b2 ae).xs.length;rw [←CO];omega)),(by first|exact GX hP.nd RJ VF oz xm CZ|exact ⟨XF,fun j h1 h2=>VF.2 j oz h2⟩),rfl⟩)
 refine ab 4 (h:=aV (k:=?_))
 have Iq:=rV.sn
 exact cm 2 (h:=by exact ⟨q2+1,pq,bq,xG,mq,xF,xE,uw,Bq,uv,xk,wq,xj,xi,rfl,Iq,om,(by first|(rw [P4,CO,show fn=(aZ d).length by omega] at q1;exact hT.split cB iG.part iG.snd hL TN RS hP oz xm CZ (by show (ps.getD b2 ae).xs.length<(mq.getD b2 ae).xs.length;rw [←CO];omega) q1)|exact hT.skip iG.part hLi RS hP oz xm CZ (by show¬(ps.getD b2 ae).xs.length<(mq.getD b2 ae).xs.length;rw [←CO];omega)),(by first|exact GX hP.nd RJ VF oz xm CZ|exact ⟨XF,fun j h1 h2=>VF.2 j oz h2⟩),rfl⟩)
 exact DY 1 (h:=⟨bq,xG,mq,xF,xE,uw,Bq,uv,xk,wq,xj,xi,rfl,(mf.se [3,10,4,5,6,7,1,2]),(hT.fin oz hL),hT.QB⟩)
theorem Jr (d:au) (jN:aP) (j6:aP) (kG:aP) (jM:Nat) (j5:Nat) (kF:Nat) (w:World) (np:cP (aw .i64) w jN d.cls jM) (my:cP (aw .i64) w j6 d.next j5) (nY:cP bC w kG d.acc kF) (hl:d.cls.length≤1000):
 Calls Tryz.prog 182 #[.agg #[aH jN d.cls jM,ai d.width,ai d.start,aH j6 d.next j5,aH kG d.acc kF]] w (aX fun v w'=>∃a2,∃c2:Nat,v=aH a2 (aZ d) c2∧ax w [] w' [cE (aw .i64) 3 a2 (aZ d) c2]):=by
 have mI:=np.le
 have mH:=my.le
 have mJ:=nY.le
 refine cH Tryz.func182 (h:=fun H0=>ab 2 (h:=jf H0 (k:=fun w1 H1=>ab 6 (h:=aM (H1.b 0) (k:=ab 0 (h:=aA (c:=qx jN d.cls jM d.cls.length w1 (np.at H1) oz) (k:=?_)))))))
 rintro _ w2 ⟨bH,b6,rfl,u2⟩
 have H2:=H1.ns u2
 refine ab 6 (h:=aA (c:=BH bH d.cls _ d.cls.length w2 (H2.dr 1) rfl oz) (k:=?_))
 rintro _ w3 ⟨rfl,u3⟩
 have H3:=H2.un 1 u3
 refine ab 5 (h:=aA (c:=tM bH (nQ d.cls) _ d.cls.length w3 (H3.dr 1) ((jT _).symm) (by rw [jT];omega)) (k:=?_))
 rintro _ w4 ⟨rfl,u4⟩
 have H4:=H3.un 1 u4
 exact bE 4 (h:=⟨bH,b6,rfl,(by have hh:=H4.kM 1;exact hh)⟩)
theorem B7 (d:au) (jN:aP) (j6:aP) (kG:aP) (jM:Nat) (j5:Nat) (kF:Nat) (w:World) (np:bz (aw .i64) w (.slice jN d.cls.length jM) d.cls) (my:bz (aw .i64) w (.slice j6 d.next.length j5) d.next) (nY:bz bC w (.slice kG d.acc.length kF) d.acc) (cB:aD d=true):
 Calls Tryz.prog 157 #[.agg #[.slice jN d.cls.length jM,ai d.width,ai d.start,.slice j6 d.next.length j5,.slice kG d.acc.length kF]] w (aX fun v w'=>∃g:Nat,∃fa,∃F:List (LR (LR Int)),∃fc ba,∃bl:List Int,∃bc,∃bn:Nat,∃ma,∃ms:List (LR Int),∃mc,∃mn:Nat,∃ta,∃td:List (Int×Int),∃tc wa,∃wt:List (LR Bool),∃wc,∃wn:Nat,v= .pointer (some ⟨g,0,none⟩)∧ax w [] w' [aQ g #[.slice fa F.length fc,.slice ba bn bc,.slice ma mn mc,.slice ta td.length tc,.slice wa wn wc] 247,lV 198 25 fa F.length fc F,ag (aw .i64) (.slice ba bn bc) 3 bl,ag aK (.slice ma mn mc) 25 ms,ao (aG (aw .i64) 3).row ms,ag jl (.slice ta td.length tc) 249 td,ag aK (.slice wa wn wc) 26 wt,ao (aG bC 4).row wt]∧(xh d F)∧(kA d bl ms td wt (fun _ _ _=>False))∧(td.length≤(aZ d).length)):=by
 have Ho:=bh.1 cB
 have PI:=nO d
 have mI:=np.le
 have mH:=my.le
 have mJ:=nY.le
 refine cH Tryz.func157 (h:=fun H0=>ab 2 (h:=jf H0 (k:=fun w1 H1=>ab 6 (h:=aM (H1.b 0) (k:=?_)))))
 refine aN 7 rfl (jo d.acc.length (0:Int) (T:=(aw .i64)) rfl Tryz.underlying25 xv rfl rfl rfl rfl oz oz fun w2 u2=>?_)
 have H2:=H1.nw u2
 refine ab 0 (h:=cu (k:=ab 0 (h:=jf H2 (k:=fun w3 H3=>ab 6 (h:=cd (H3.b 0) (k:=ab 0 (h:=aA (c:=Jr d jN j6 kG jM j5 kF w3 (np.at H3) (my.at H3) (nY.at H3) oz) (k:=?_))))))))
 rintro _ w4 ⟨bH,b6,rfl,u4⟩
 have H4:=H3.ns u4
 have H5:=H4.nr (aK:Ty (LR (LR Int))) 198
 have H6:=H5.sn
 have H7:av w [] w4 [[aQ w.heap.size #[.slice jN d.cls.length jM,ai d.width,ai d.start,.slice j6 d.next.length j5,.slice kG d.acc.length kF] 28],[ag (aw .i64) (.slice (some ⟨w1.heap.size,0,none⟩) ((List.replicate d.acc.length (0:Int)).length) d.acc.length) 3 (List.replicate d.acc.length (0:Int))],[aQ w2.heap.size #[.slice none (([]:List (LR (LR Int))).length) 0,.slice (some ⟨w1.heap.size,0,none⟩) ((List.replicate d.acc.length (0:Int)).length) d.acc.length,.slice none 0 0,.slice none 0 0,.slice none 0 0] 247],[ag (aw .i64) (.slice bH ((aZ d).length) b6) 3 (aZ d)],[ag aK (.slice none (([]:List (LR (LR Int))).length) 0) 198 ([]:List (LR (LR Int)))],[ao (aG aK 25).row ([]:List (LR (LR Int)))]]:=H6.iZ (ax.mF (aG aK 25).row w4)
 have H8:av w [] w4 [[aQ w.heap.size #[.slice jN d.cls.length jM,ai d.width,ai d.start,.slice j6 d.next.length j5,.slice kG d.acc.length kF] 28],[ag (aw .i64) (.slice (some ⟨w1.heap.size,0,none⟩) ((List.replicate d.acc.length (0:Int)).length) d.acc.length) 3 (List.replicate d.acc.length (0:Int))],[aQ w2.heap.size #[.slice none (([]:List (LR (LR Int))).length) 0,.slice (some ⟨w1.heap.size,0,none⟩) ((List.replicate d.acc.length (0:Int)).length) d.acc.length,.slice none 0 0,.slice none 0 0,.slice none 0 0] 247],[ag (aw .i64) (.slice bH ((aZ d).length) b6) 3 (aZ d)],[ag aK (.slice none (([]:List (LR (LR Int))).length) 0) 198 ([]:List (LR (LR Int)))],[ao (aG aK 25).row ([]:List (LR (LR Int)))],[ao PD.row (([]:List (LR (LR Int))).flatMap LR.xs)]]:=H7.iZ (ax.mF PD.row w4)
 have H9:=H8.ps [2,4,5,6,0,1,3]
 refine dA 5 [27,26,25,4,3,2,1] (fun B R L m e v=>∃k,∃Fq:List (LR (LR Int)),∃D8 D7,e=(27,b7 k)::B∧av w L v ([aQ w2.heap.size #[.slice D8 Fq.length D7,.slice (some ⟨w1.heap.size,0,none⟩) ((List.replicate d.acc.length (0:Int)).length) d.acc.length,.slice none 0 0,.slice none 0 0,.slice none 0 0] 247]::[ag aK (.slice D8 Fq.length D7) 198 Fq]::[ao (aG aK 25).row Fq]::[ao PD.row (Fq.flatMap LR.xs)]::R)∧(k≤(aZ d).length)∧(rX d Fq k)∧m=(aZ d).length-k) (i:=⟨0,([]:List (LR (LR Int))),none,0,rfl,H9,om,(by exact rX.start d),rfl⟩) (h:=?_)
 rintro m1 Γ1 w5 ⟨k,Fq,D8,D7,rfl,bW,hk,hf,rfl⟩
 refine aC 6 (fun c35=>?_) fun c35=>?_
 refine ab 6 (h:=cg k (bW.rt 6) (k:=ab 0 (h:=cI (bW.rt 6) (k:=?_))))
 refine aN 6 rfl (jo d.acc.length (ae:LR Int) (T:=aK) rfl Tryz.underlying198 Ej rfl rfl rfl rfl oz oz fun w6 u5=>?_)
 have bP:=bW.nw u5
 have ck:=bP.nw (ax.Hc (aw .i64) 3 d.acc.length w6)
 have cU:=ck.ps [7,8,0,1,2,3,4,5,6]
 refine dA 11 [34,33,7,6,27,26,25,4,3,2,1] (fun B R L m e v=>∃i,∃ps:List (LR Int),e=(34,b7 i)::B∧av w L v ([ag aK (.slice (some ⟨w5.heap.size,0,none⟩) ((List.replicate d.acc.length (ae:LR Int)).length) d.acc.length) 25 ps]::[ao (aG (aw .i64) 3).row ps]::R)∧(i≤d.acc.length)∧(Sc d k ps i)∧m=d.acc.length-i) (i:=⟨0,List.replicate d.acc.length (ae:LR Int),rfl,cU,om,(by exact Sc.start d k),rfl⟩) (h:=?_)
 rintro m2 Γ2 w7 ⟨i,ps,rfl,cN,hi,hp,rfl⟩
 refine aC 6 (fun UK=>?_) fun UK=>?_
 have MU:=uu cB (x:=(aZ d).getD k 0) (ak oz)
 have VO:=eA (q:=(i:Int)) cB oz oz MU.1 MU.2
 refine ab 13 (h:=aM (cN.b 6) (k:=ab 2 (h:=aM (cN.b 6) (k:=ab 0 (h:=Ha (k:=ab 1 (h:=aV (k:=ab 0 (h:=cg (((((i:Nat):Int)*d.width)+((aZ d).getD k 0)).toNat) (my.at cN) (cD:=oz) (k:=ab 0 (h:=cI (my.at cN) (k:=?_))))))))))))
 have X8:=k4 cB (k:=k) (i:=i) oz oz
 have X7:=X8.1
 have aiJ:=X8.2
 have OB:=hp.len
 have Bc:=hp.size (dl d k i) X7
 refine ab 8 (h:=cg (dl d k i) (cN.rt 0) (cD:=oz) (k:=ab 0 (h:=cI (cN.rt 0) (k:=ab 1 (h:=dL (aw .i64) [((i:Nat):Int)] cN (k:=fun w8 dt=>?_))))))
 have dw:Uu11:=dt.ei (f:=(aG (aw .i64) 3).row) ae 1 (dl d k i) rfl oz
 refine aN 0 rfl (ff (T:=(aw .i64)) (xs:=((ps.getD (dl d k i) ae).xs)) (ys:=[((i:Nat):Int)]) rfl Tryz.underlying25 xv rfl rfl rfl (dw.rt 10).len (dw.ow 10) (dw.rt 9) eR eR fun a1 c1 w9 u7=>?_)
 have fH:=((dw.un 10 u7).drop 9).no
 refine ab 0 (h:=cg (dl d k i) (fH.rt 0) (cD:=oz) (k:=aY 0 (h:=tX ⟨a1,(((ps.getD (dl d k i) ae).xs)++[((i:Nat):Int)]).length,c1,((ps.getD (dl d k i) ae).xs)++[((i:Nat):Int)]⟩ fH 0 (T:=aK) (k:=fun iy il=>?_))))
 have jh:Uu9x2:=(il.eo (f:=(aG (aw .i64) 3).row) ⟨a1,(((ps.getD (dl d k i) ae).xs)++[((i:Nat):Int)]).length,c1,((ps.getD (dl d k i) ae).xs)++[((i:Nat):Int)]⟩ 1 10 (dl d k i) rfl rfl rfl oz).re rfl
 exact cv 3 [34,33,7,6,27,26,25,4,3,2,1] (h:=ab 1 (h:=aV (k:=cm 2 (h:=by exact ⟨i+1,ps.set (dl d k i) ⟨a1,(((ps.getD (dl d k i) ae).xs)++[((i:Nat):Int)]).length,c1,((ps.getD (dl d k i) ae).xs)++[((i:Nat):Int)]⟩,rfl,(jh.re rfl),om,(by exact hp.step rfl X7),rfl⟩))))
 have As:=hf.len
 refine ab 7 (h:=aM (cN.b 2) (k:=ab 1 (h:=dL aK ([⟨(some ⟨w5.heap.size,0,none⟩),(List.replicate d.acc.length (ae:LR Int)).length,d.acc.length,ps⟩]:List (LR (LR Int))) cN (k:=fun gS eH=>ab 0 (h:=kJ eH 3 (eH.rt 9) (hb:=eR) (kW:=eR) (k:=fun a2 c2 jz aeY=>?_))))))
 have lf:=(aeY.drop 9).no
 have ji:av _ _ _ [[],[_],[_],[_],[_],[_],[_],[_],[_],[]]:=(av.ng (f:=(aG aK 25).row) (⟨(some ⟨w5.heap.size,0,none⟩),(List.replicate d.acc.length (ae:LR Int)).length,d.acc.length,ps⟩:(LR (LR Int))) lf 4 0 rfl rfl rfl).re rfl
 refine aY 2 (h:=jV ji 2 (k:=fun kK oI=>ab 4 (h:=aV (k:=?_))))
 have nF:av _ _ _ [[],[],[_],[_],[_],[_],[_],[_],[_],[]]:=(oI.MB (f:=PD.row) (⟨(some ⟨w5.heap.size,0,none⟩),(List.replicate d.acc.length (ae:LR Int)).length,d.acc.length,ps⟩:LR (LR Int)) 5 1 rfl rfl rfl).re rfl
 exact cm 2 (h:=by exact ⟨k+1,Fq++([⟨(some ⟨w5.heap.size,0,none⟩),(List.replicate d.acc.length (ae:LR Int)).length,d.acc.length,ps⟩]:List (LR (LR Int))),a2,c2,rfl,(nF.re rfl),om,(by exact hf.step hp oz),rfl⟩)
 have nE:=bW.sn
 have pM:av _ _ _ [[_,_,_],[_],[_],[_],[_]]:=av.of (ax.iW nE (l:=[1,2,3,0,4,5,6]) rfl rfl) rfl
 have pL:Uu5:=pM.LO 0 rfl
 have As:=hf.len
 have hFP:=hf.fin oz
 refine ab 12 (h:=aM (pL.b 2) (k:=?_))
 have rW:=pL.nr (aw .i64) 3
 have tS:=rW.nr (aw .i64) 3
 have pK:=tS.ps [5,6,0,1,2,3,4]
 refine dA 5 [72,11,10,71,70,4,2] (fun B R L m e v=>∃i,∃ys:List Int,∃ya yc,∃ns:List Int,∃na nc,e=(72,b7 i)::(11,.slice na ns.length nc)::(10,.slice ya ys.length yc)::B∧av w L v ([ag (aw .i64) (.slice ya ys.length yc) 3 ys]::[ag (aw .i64) (.slice na ns.length nc) 3 ns]::R)∧(i≤d.acc.length)∧(ys=gq d true i)∧(ns=gq d false i)∧m=d.acc.length-i) (i:=⟨0,([]:List Int),none,0,([]:List Int),none,0,rfl,pK,om,rfl,rfl,rfl⟩) (h:=?_)
 rintro m3 Γ3 nH ⟨Fp,ys,ya,yc,ns,na,nc,rfl,mf,hi,RD,KD,rfl⟩
 have hyl:ys.length≤Fp:=by rw [RD];exact qN d true Fp
 have PR:ns.length≤Fp:=by rw [KD];exact qN d false Fp
 refine aC 6 (fun Zc=>?_) fun Zc=>?_
 refine ab 7 (h:=cg Fp (nY.at mf) (k:=ab 0 (h:=cI (nY.at mf) (k:=dv 9 (fun Bf=>?_) fun Bf=>?_))))
 have hyl:=qN d true Fp
 refine ab 3 (h:=dL (aw .i64) [((Fp:Nat):Int)] mf (k:=fun tU rV=>ab 0 (h:=kJ rV 0 (rV.rt 7) (hb:=eR) (kW:=eR) (k:=fun a3 c3 ur aeU=>?_))))
 have pY:=(aeU.drop 7).no
 exact ab 5 (h:=aV (k:=cm 2 (h:=by exact ⟨Fp+1,ys++[((Fp:Nat):Int)],a3,c3,ns,na,nc,rfl,(pY.re rfl),om,(by first|(rw [RD];exact qM Bf)|(rw [RD];exact uy Bf)),(by first|(rw [KD];exact qM (by simpa using Bf))|(rw [KD];exact uy (by rw [Bf];decide))),rfl⟩)))
 have PR:=qN d false Fp
 refine ab 3 (h:=dL (aw .i64) [((Fp:Nat):Int)] mf (k:=fun xq xV=>ab 0 (h:=kJ xV 1 (xV.rt 7) (hb:=eR) (kW:=eR) (k:=fun a4 c4 zn aeT=>?_))))
 have qF:=(aeT.drop 7).no
 exact ab 5 (h:=aV (k:=cm 2 (h:=by exact ⟨Fp+1,ys,ya,yc,ns++[((Fp:Nat):Int)],a4,c4,rfl,(qF.re rfl),om,(by first|(rw [RD];exact qM Bf)|(rw [RD];exact uy Bf)),(by first|(rw [KD];exact qM (by simpa using Bf))|(rw [KD];exact uy (by rw [Bf];decide))),rfl⟩)))
 refine ab 7 (h:=dL aK ([⟨na,ns.length,nc,ns⟩,⟨ya,ys.length,yc,ys⟩]:List (LR Int)) mf (k:=fun zm A5=>?_))
 have Bh:=A5.nr (aK:Ty (LR Int)) 25
 have xg:=Bh.nr jl 249
 have Iq:=xg.nr (aK:Ty (LR Bool)) 26
 have Gm:=Iq.sn
 have OJ:av w [] zm [[ag (aw .i64) (.slice ya ys.length yc) 3 ys],[ag (aw .i64) (.slice na ns.length nc) 3 ns],[lV 198 25 D8 Fq.length D7 Fq],[aQ w2.heap.size #[.slice D8 Fq.length D7,.slice (some ⟨w1.heap.size,0,none⟩) ((List.replicate d.acc.length (0:Int)).length) d.acc.length,.slice none (([]:List (LR Int)).length) 0,.slice none (([]:List (Int×Int)).length) 0,.slice none (([]:List (LR Bool)).length) 0] 247],[aQ w.heap.size #[.slice jN d.cls.length jM,ai d.width,ai d.start,.slice j6 d.next.length j5,.slice kG d.acc.length kF] 28],[ag (aw .i64) (.slice (some ⟨w1.heap.size,0,none⟩) ((List.replicate d.acc.length (0:Int)).length) d.acc.length) 3 (List.replicate d.acc.length (0:Int))],[ag (aw .i64) (.slice bH ((aZ d).length) b6) 3 (aZ d)],[ag aK (.slice (some ⟨nH.heap.size,0,none⟩) (([⟨na,ns.length,nc,ns⟩,⟨ya,ys.length,yc,ys⟩]:List (LR Int)).length) (([⟨na,ns.length,nc,ns⟩,⟨ya,ys.length,yc,ys⟩]:List (LR Int)).length)) 25 ([⟨na,ns.length,nc,ns⟩,⟨ya,ys.length,yc,ys⟩]:List (LR Int))],[ag aK (.slice none (([]:List (LR Int)).length) 0) 25 ([]:List (LR Int))],[ag jl (.slice none (([]:List (Int×Int)).length) 0) 249 ([]:List (Int×Int))],[ag aK (.slice none (([]:List (LR Bool)).length) 0) 26 ([]:List (LR Bool))],[ao (aG (aw .i64) 3).row ([]:List (LR Int))]]:=Gm.iZ (ax.mF (aG (aw .i64) 3).row zm)
 have Sh:av w [] zm [[ag (aw .i64) (.slice ya ys.length yc) 3 ys],[ag (aw .i64) (.slice na ns.length nc) 3 ns],[lV 198 25 D8 Fq.length D7 Fq],[aQ w2.heap.size #[.slice D8 Fq.length D7,.slice (some ⟨w1.heap.size,0,none⟩) ((List.replicate d.acc.length (0:Int)).length) d.acc.length,.slice none (([]:List (LR Int)).length) 0,.slice none (([]:List (Int×Int)).length) 0,.slice none (([]:List (LR Bool)).length) 0] 247],[aQ w.heap.size #[.slice jN d.cls.length jM,ai d.width,ai d.start,.slice j6 d.next.length j5,.slice kG d.acc.length kF] 28],[ag (aw .i64) (.slice (some ⟨w1.heap.size,0,none⟩) ((List.replicate d.acc.length (0:Int)).length) d.acc.length) 3 (List.replicate d.acc.length (0:Int))],[ag (aw .i64) (.slice bH ((aZ d).length) b6) 3 (aZ d)],[ag aK (.slice (some ⟨nH.heap.size,0,none⟩) (([⟨na,ns.length,nc,ns⟩,⟨ya,ys.length,yc,ys⟩]:List (LR Int)).length) (([⟨na,ns.length,nc,ns⟩,⟨ya,ys.length,yc,ys⟩]:List (LR Int)).length)) 25 ([⟨na,ns.length,nc,ns⟩,⟨ya,ys.length,yc,ys⟩]:List (LR Int))],[ag aK (.slice none (([]:List (LR Int)).length) 0) 25 ([]:List (LR Int))],[ag jl (.slice none (([]:List (Int×Int)).length) 0) 249 ([]:List (Int×Int))],[ag aK (.slice none (([]:List (LR Bool)).length) 0) 26 ([]:List (LR Bool))],[ao (aG (aw .i64) 3).row ([]:List (LR Int))],[ao (aG bC 4).row ([]:List (LR Bool))]]:=OJ.iZ (ax.mF (aG bC 4).row zm)
 have Sg:av w [] zm [[ag (aw .i64) (.slice ya ys.length yc) 3 ys],[ag (aw .i64) (.slice na ns.length nc) 3 ns],[lV 198 25 D8 Fq.length D7 Fq],[aQ w2.heap.size #[.slice D8 Fq.length D7,.slice (some ⟨w1.heap.size,0,none⟩) ((List.replicate d.acc.length (0:Int)).length) d.acc.length,.slice none (([]:List (LR Int)).length) 0,.slice none (([]:List (Int×Int)).length) 0,.slice none (([]:List (LR Bool)).length) 0] 247],[aQ w.heap.size #[.slice jN d.cls.length jM,ai d.width,ai d.start,.slice j6 d.next.length j5,.slice kG d.acc.length kF] 28],[ag (aw .i64) (.slice (some ⟨w1.heap.size,0,none⟩) ((List.replicate d.acc.length (0:Int)).length) d.acc.length) 3 (List.replicate d.acc.length (0:Int))],[ag (aw .i64) (.slice bH ((aZ d).length) b6) 3 (aZ d)],[ag aK (.slice (some ⟨nH.heap.size,0,none⟩) (([⟨na,ns.length,nc,ns⟩,⟨ya,ys.length,yc,ys⟩]:List (LR Int)).length) (([⟨na,ns.length,nc,ns⟩,⟨ya,ys.length,yc,ys⟩]:List (LR Int)).length)) 25 ([⟨na,ns.length,nc,ns⟩,⟨ya,ys.length,yc,ys⟩]:List (LR Int))],[ag aK (.slice none (([]:List (LR Int)).length) 0) 25 ([]:List (LR Int))],[ag jl (.slice none (([]:List (Int×Int)).length) 0) 249 ([]:List (Int×Int))],[ag aK (.slice none (([]:List (LR Bool)).length) 0) 26 ([]:List (LR Bool))],[ao (aG (aw .i64) 3).row ([]:List (LR Int))],[ao (aG bC 4).row ([]:List (LR Bool))],[ao Fo.row ([]:List (LR Int))]]:=Sh.iZ (ax.mF Fo.row zm)
 have Vm:av _ _ _ [[_],[],[_],[_],[_],[_],[_],[_],[_],[_],[_],[_],[_],[_]]:=(av.ng (f:=Fo.row) (⟨na,ns.length,nc,ns⟩:LR Int) Sg 13 1 rfl rfl rfl).re rfl
 have Vl:av _ _ _ [[],[],[_],[_],[_],[_],[_],[_],[_],[_],[_],[_],[_],[_]]:=(av.ng (f:=Fo.row) (⟨ya,ys.length,yc,ys⟩:LR Int) Vm 13 0 rfl rfl rfl).re rfl
 have Sf:av _ _ _ [[],[],[_],[_],[_],[_],[_],[_],[_],[_],[_],[_],[_],[_]]:=Vl.re rfl
 have Se:=Sf.ps [1,3,6,8,9,10,11,0,2,4,5,7]
 refine dA 5 [91,90,89,4,2] (fun B R L m e v=>∃kz,∃zq:List (LR Int),∃bq:List Int,∃xG,∃mq:List (LR Int),∃xF,∃xE:Nat,∃xk,∃wq:List (LR Bool),∃xj,∃xi:Nat,e=(91,b7 kz)::B∧av w L v ([aQ w2.heap.size #[.slice D8 Fq.length D7,.slice (some ⟨w1.heap.size,0,none⟩) ((List.replicate d.acc.length (0:Int)).length) d.acc.length,.slice xG xE xF,.slice none (([]:List (Int×Int)).length) 0,.slice xk xi xj] 247]::[ag (aw .i64) (.slice (some ⟨w1.heap.size,0,none⟩) ((List.replicate d.acc.length (0:Int)).length) d.acc.length) 3 bq]::[ag aK (.slice xG xE xF) 25 mq]::[ag aK (.slice xk xi xj) 26 wq]::[ao (aG (aw .i64) 3).row mq]::[ao (aG bC 4).row wq]::[ao Fo.row zq]::R)∧(kz≤2)∧(zq.length=2∧∀j,kz≤j→j<2→zq.getD j ae=([⟨na,ns.length,nc,ns⟩,⟨ya,ys.length,yc,ys⟩]:List (LR Int)).getD j ae)∧(jS d (aZ d).length bq mq wq kz)∧m=2-kz) (i:=⟨0,([⟨na,ns.length,nc,ns⟩,⟨ya,ys.length,yc,ys⟩]:List (LR Int)),List.replicate d.acc.length (0:Int),none,([]:List (LR Int)),0,([]:List (LR Int)).length,none,([]:List (LR Bool)),0,([]:List (LR Bool)).length,rfl,Se,oz,(by exact ⟨rfl,fun j _ _=>rfl⟩),(by exact jS.start rfl),rfl⟩) (h:=?_)
 rintro m4 Γ4 Ix ⟨kz,zq,bq,xG,mq,xF,xE,xk,wq,xj,xi,rfl,Ip,hkz,JF,hD,rfl⟩
 refine aC 6 (fun Du=>?_) fun Du=>?_
 refine ab 6 (h:=cg kz (Ip.rt 10) (k:=ab 0 (h:=cI (Ip.rt 10) (k:=?_))))
 have hZ2:([⟨na,ns.length,nc,ns⟩,⟨ya,ys.length,yc,ys⟩]:List (LR Int)).length=2:=rfl
 rw [show ([⟨na,ns.length,nc,ns⟩,⟨ya,ys.length,yc,ys⟩]:List (LR Int)).getD kz ae=zq.getD kz ae from (JF.2 kz (Nat.le_refl _) oz).symm]
 have hzn:=bz.len (show bz (aw .i64) Ix (.slice ((zq.getD kz ae).a) ((zq.getD kz ae).n) ((zq.getD kz ae).c)) ((zq.getD kz ae).xs) from (eK.own (Ip.bU 6 rfl)).get ae kz oz)
 have tD:kz<2:=by omega
 have RM:(zq.getD kz ae).xs=gq d (decide (kz=1)) d.acc.length:=by rw [JF.2 kz (Nat.le_refl _) tD];rcases (by omega:kz=0∨kz=1) with rfl|rfl;(show ns=_;rw [KD,show Fp=d.acc.length by omega];rfl);(show ys=_;rw [RD,show Fp=d.acc.length by omega];rfl)
 have Xr:=JF.1
 have hDl:=hD.wl
 have hDm:=hD.ue
 refine aC 10 (fun Za=>?_) fun Za=>?_
 have ZO:Uu13:=Ip.ei (f:=Fo.row) ae 6 kz rfl oz
 have VZ:av _ _ _ [[_,_,_,_,_,_],[_],[_],[_],[_],[_],[_],[_]]:=av.of (ax.iW ZO (l:=[0,1,2,4,3,5,6,7,8,9,10,11,12]) rfl rfl) rfl
 refine ab 3 (h:=aA (c:=C4 _ _ ((zq.getD kz ae).xs) _ ((zq.getD kz ae).n) D8 D7 Fq.length (some ⟨w1.heap.size,0,none⟩) bq d.acc.length ((List.replicate d.acc.length (0:Int)).length) xG mq xF xE (.slice none (([]:List (Int×Int)).length) 0) xk wq xj xi Ix (VZ.CQ 0 7 rfl rfl rfl) (fun x hx=>by rw [RM] at hx;obtain ⟨i,hi,e,_⟩:=gp.1 hx;have h9:=hD.bl;omega) oz oz oz) (k:=?_))
 rintro _ Q9 ⟨pW,jB,jA,iT,eQ,iS,rfl,Iz,q1⟩
 have VY:av _ _ _ [[_,_,_,_,_,_],[_],[_],[_],[_],[_],[_],[]]:=(VZ.fE (A':=[aQ w2.heap.size #[.slice D8 Fq.length D7,.slice (some ⟨w1.heap.size,0,none⟩) ((List.replicate d.acc.length (0:Int)).length) d.acc.length,.slice jB ((mq++([⟨((zq.getD kz ae).a),((zq.getD kz ae).n),((zq.getD kz ae).c),((zq.getD kz ae).xs)⟩]:List (LR Int))).length) jA,(.slice none (([]:List (Int×Int)).length) 0),.slice iT eQ.length iS] 247,ag (aw .i64) (.slice (some ⟨w1.heap.size,0,none⟩) ((List.replicate d.acc.length (0:Int)).length) d.acc.length) 3 pW,ag aK (.slice jB ((mq++([⟨((zq.getD kz ae).a),((zq.getD kz ae).n),((zq.getD kz ae).c),((zq.getD kz ae).xs)⟩]:List (LR Int))).length) jA) 25 (mq++([⟨((zq.getD kz ae).a),((zq.getD kz ae).n),((zq.getD kz ae).c),((zq.getD kz ae).xs)⟩]:List (LR Int))),ao (aG (aw .i64) 3).row (mq++([⟨((zq.getD kz ae).a),((zq.getD kz ae).n),((zq.getD kz ae).c),((zq.getD kz ae).xs)⟩]:List (LR Int))),ag aK (.slice iT eQ.length iS) 26 eQ,ao (aG bC 4).row eQ]) (B':=[]) (C:=[]) 0 7 rfl rfl rfl Iz).re rfl
 refine ab 4 (h:=aV (k:=?_))
 have VX:=VY.nr (aw .i64) 3
 have H53:av _ _ _ [[_,_,_,_,_,_],[_],[_],[_],[_],[_],[_],[],[]]:=(VX.eo (f:=Fo.row) (ae:LR Int) 1 8 kz rfl rfl rfl oz).re rfl
 have Vk:Uu12x2:=H53.re rfl
 exact cm 2 (h:=by exact ⟨kz+1,zq.set kz ae,pW,jB,mq++([⟨((zq.getD kz ae).a),((zq.getD kz ae).n),((zq.getD kz ae).c),((zq.getD kz ae).xs)⟩]:List (LR Int)),jA,(mq++([⟨((zq.getD kz ae).a),((zq.getD kz ae).n),((zq.getD kz ae).c),((zq.getD kz ae).xs)⟩]:List (LR Int))).length,iT,eQ,iS,eQ.length,rfl,(Vk.pm [0,1,2,4,3,5,6,7,8,9,10,11] rfl rfl),oz,(by first|exact ⟨by rw [List.length_set];exact JF.1,fun j h1 h2=>by rw [ed (by rw [JF.1];omega),if_neg oz];exact JF.2 j oz h2⟩|exact ⟨JF.1,fun j h1 h2=>JF.2 j oz h2⟩),(by first|(rw [show Fq.length=(aZ d).length by omega] at q1;exact hD.add tD RM (fun e=>by have h7:=congrArg List.length e;simp only [List.length_nil] at h7;omega) q1)|exact hD.skip tD (by rw [←RM];exact List.length_eq_zero_iff.1 oz)),rfl⟩)
 refine ab 4 (h:=aV (k:=?_))
 have H55:=Ip.sn
 exact cm 2 (h:=by exact ⟨kz+1,zq,bq,xG,mq,xF,xE,xk,wq,xj,xi,rfl,H55,oz,(by first|exact ⟨by rw [List.length_set];exact JF.1,fun j h1 h2=>by rw [ed (by rw [JF.1];omega),if_neg oz];exact JF.2 j oz h2⟩|exact ⟨JF.1,fun j h1 h2=>JF.2 j oz h2⟩),(by first|(rw [show Fq.length=(aZ d).length by omega] at q1;exact hD.add tD RM (fun e=>by have h7:=congrArg List.length e;simp only [List.length_nil] at h7;omega) q1)|exact hD.skip tD (by rw [←RM];exact List.length_eq_zero_iff.1 oz)),rfl⟩)
 have hZ2:([⟨na,ns.length,nc,ns⟩,⟨ya,ys.length,yc,ys⟩]:List (LR Int)).length=2:=rfl
 have ah0:=bz.len (Ip.GU 2 rfl)
 have hD2:jS d (aZ d).length bq mq wq 2:=by have e9:kz=2:=oz;rw [←e9];exact hD
 have ai3:=hD2.wl
 have hFl:=hFP.len
 refine ab 8 (h:=aM (Ip.b 0) (k:=aC 4 (fun c56=>?_) fun c56=>?_))
 refine ab 5 (h:=aM (Ip.b 0) (k:=?_))
 have ZN:=Ip.sn
 have H57:=ZN.ps [0,3,5,11,1,2,4,6,7,8,9,10]
 refine dA 5 [113,112,4,2] (fun B R L m e v=>∃c uw,∃Bq:List (Int×Int),∃uv,∃wz:List (LR Bool),e=(113,b7 c)::B∧av w L v ([aQ w2.heap.size #[.slice D8 Fq.length D7,.slice (some ⟨w1.heap.size,0,none⟩) ((List.replicate d.acc.length (0:Int)).length) d.acc.length,.slice xG xE xF,.slice uw Bq.length uv,.slice xk xi xj] 247]::[ag aK (.slice xk xi xj) 26 wz]::[ao (aG bC 4).row wz]::[ag jl (.slice uw Bq.length uv) 249 Bq]::R)∧(c≤Fq.length)∧(R7 (aZ d).length wz Bq c)∧m=Fq.length-c) (i:=⟨0,none,[],0,wq,rfl,(H57.re rfl),om,(by exact R7.start hD2 oz),rfl⟩) (h:=?_)
 rintro m5 Γ5 Oo ⟨c,uw,Bq,uv,wz,rfl,H58,hc,hW,rfl⟩
 refine aC 6 (fun Y8=>?_) fun Y8=>?_
 have hwz:=hW.len
 have ahg:=hW.row 0 oz
 have PH:=hW.row 1 oz
 have hwt:=hW.tl
 have H59:av _ _ _ [[_,_,_,_,_],[_],[_],[_],[_],[_],[_],[_]]:=av.of (ax.iW H58 (l:=[0,5,3,1,2,4,6,7,8,9,10,11]) rfl rfl) rfl
 refine ab 13 (h:=aA (c:=yQ _ _ _ _ (.slice D8 Fq.length D7) (.slice (some ⟨w1.heap.size,0,none⟩) ((List.replicate d.acc.length (0:Int)).length) d.acc.length) xG mq xF xE uw Bq uv xk wz xj xi Oo (H59.dr 0) oz oz (by show 0≤((c:Nat):Int)∧((c:Nat):Int)<((wz.getD 0 ae).xs.length:Int)∧((c:Nat):Int)<((wz.getD 1 ae).xs.length:Int);omega) oz) (k:=?_))
 rintro _ Om ⟨gV,gU,Bk,nG,rfl,Sp,q2,q3⟩
 have H60:=H59.un 0 Sp
 refine ab 4 (h:=aV (k:=?_))
 have H61:=H60.sn
 exact cm 2 (h:=by exact ⟨c+1,gV,Bq++[(nG,((c:Nat):Int))],gU,Bk,rfl,(H61.pm [0,3,4,2,5,1,6,7,8,9,10,11] rfl rfl),om,(by (simp only [Int.toNat_natCast] at q3;exact hW.step oz q2 q3)),rfl⟩)
 exact bE 9 (h:=⟨w2.heap.size,D8,Fq,D7,(some ⟨w1.heap.size,0,none⟩),_,d.acc.length,(List.replicate d.acc.length (0:Int)).length,xG,mq,xF,xE,uw,Bq,uv,xk,_,xj,xi,rfl,(H58.se [0,8,4,5,6,3,1,2]),hFP,(hD2.Ud cB oz hW oz),(by have h9:=hW.tl;omega)⟩)
 exact bE 9 (h:=⟨w2.heap.size,D8,Fq,D7,(some ⟨w1.heap.size,0,none⟩),_,d.acc.length,(List.replicate d.acc.length (0:Int)).length,xG,mq,xF,xE,none,([]:List (Int×Int)),0,xk,_,xj,xi,rfl,(Ip.se [0,7,1,2,4,11,3,5]),hFP,(hD2.adO cB oz),(by simp)⟩)
theorem Gg (d:au) (jN:aP) (j6:aP) (kG:aP) (jM:Nat) (j5:Nat) (kF:Nat) (w:World) (np:cP (aw .i64) w jN d.cls jM) (my:cP (aw .i64) w j6 d.next j5) (nY:cP bC w kG d.acc kF):
 Calls Tryz.prog 114 #[.agg #[aH jN d.cls jM,ai d.width,ai d.start,aH j6 d.next j5,aH kG d.acc kF]] w (aX fun v w'=>∃a2,∃c2:Nat,v= .tuple #[aH a2 (ep d) c2,ai (rP d)]∧ax w [] w' [cE (aw .i64) 3 a2 (ep d) c2]∧(aD d=false→a2=none)):=by
 have mI:=np.le
 have mH:=my.le
 have mJ:=nY.le
 refine cH Tryz.func114 (h:=fun H0=>ab 2 (h:=jf H0 (k:=fun w1 H1=>ab 7 (h:=cd (H1.b 0) (k:=ab 0 (h:=aA (c:=si d jN j6 kG jM j5 kF w1 (np.at H1) (my.at H1) (nY.at H1)) (k:=?_)))))))
 rintro _ w2 ⟨rfl,u2⟩
 have H2:=H1.call u2
 refine dv 3 (fun UT=>?_) fun UT=>?_
 refine gh 7 (h:=?_)
 have vZ:aD d=false:=by simpa using UT
 have e1:ep d=[]:=by rw [ep,if_neg (by rw [vZ];decide)]
 have e2:rP d=0:=by rw [rP,if_neg (by rw [vZ];decide)]
 rw [e1,e2]
 exact ⟨none,0,rfl,eC H2,(fun _=>rfl)⟩
 have cB:aD d=true:=by simpa using UT
 have Ho:=bh.1 cB
 have PI:=nO d
 refine ab 4 (h:=cd (H2.b 0) (k:=ab 0 (h:=aA (c:=B7 d jN j6 kG jM j5 kF w2 (np.at H2) (my.at H2) (nY.at H2) cB) (k:=?_))))
 rintro _ w3 ⟨g_1,YO,F_1,YL,wZ,aeA,DF,QO,abO,Xg,abN,abM,Ei,aa4,IH,aaU,aaQ,aaT,aaR,rfl,u3,q1,q2,q3⟩
 have H3:=H2.nw u3
 have H4:=H3.sn
 have H5:=H4.ps [1,3,4,5,6,7,8,0,2]
 refine dA 5 [4,3,2] (fun B R L m e v=>∃U1:List Int,∃xG,∃mq:List (LR Int),∃xF,∃xE:Nat,∃uw,∃Kx:List (Int×Int),∃uv xk,∃wq:List (LR Bool),∃xj,∃xi:Nat,e=B∧av w L v ([aQ g_1 #[aH YO F_1 YL,.slice wZ QO DF,.slice xG xE xF,aH uw Kx uv,.slice xk xi xj] 247]::[ag (aw .i64) (.slice wZ QO DF) 3 U1]::[ag aK (.slice xG xE xF) 25 mq]::[ao (aG (aw .i64) 3).row mq]::[cE jl 249 uw Kx uv]::[ag aK (.slice xk xi xj) 26 wq]::[ao (aG bC 4).row wq]::R)∧(kA d U1 mq Kx wq (fun _ _ _=>False))∧((d.acc.length-mq.length)*(aZ d).length+Kx.length≤4096*259+259)∧m=(d.acc.length-mq.length)*(aZ d).length+Kx.length) (i:=⟨aeA,abO,Xg,abN,abM,Ei,aa4,IH,aaU,aaQ,aaT,aaR,rfl,H5,(by exact q2),(by (have RC:=Nat.mul_le_mul (show d.acc.length-Xg.length≤4096 by omega) (show (aZ d).length≤259 by omega));omega),rfl⟩) (h:=?_)
 rintro m1 Γ1 w4 ⟨U1,xG,mq,xF,xE,uw,Kx,uv,xk,wq,xj,xi,rfl,H6,hH,hB,rfl⟩
 refine ab 6 (h:=aM (H6.b 0) (k:=aC 4 (fun xR=>?_) fun xR=>?_))
 obtain ⟨VA,ht1,ht2⟩:=OQ hH.wait oz
 refine fI 4 H6 (h:=fun w5 H7=>c7 3 3 (H7.b 0) (D:=fun _ hC=>aM hC) (h:=c7 3 7 (H7.b 0) (D:=fun _ hC=>aM hC) (h:=gk 1 9 (D:=fun _=>kB) (h:=cp 0 10 (H7.rt 4) (D:=fun _ hC=>jb (Kx.length-1) hC (cD:=oz)) (h:=cp 0 11 (H7.rt 4) (D:=fun _ hC=>Fl hC) (h:=dj 0 12 (D:=dB H7 (k:=fun w6 H8=>?_))))))))
 refine ⟨⟨(H8.rt 4),(H8.rt 4),trivial,trivial,(H8.b 0),trivial,trivial,trivial,(H8.b 0),trivial,trivial,trivial,trivial⟩,?_⟩
 refine dj 0 13 (D:=bL H8 9 (k:=fun w7 H9=>?_))
 refine ⟨trivial,?_⟩
 refine fI 3 H9 (h:=fun w8 bW=>c7 4 4 (bW.b 0) (D:=fun _ hC=>aM hC) (h:=c7 3 8 (bW.b 0) (D:=fun _ hC=>aM hC) (h:=gk 1 10 (D:=fun _=>kB) (h:=?_))))
 refine uR 0 11 ⟨_,_,_,rfl,rfl,rfl,rfl,rfl,rfl⟩ (BC (((Kx.length:Nat):Int)-1) (Kx.length-1) (T:=jl) (e:=249) (xs:=Kx) rfl Tryz.underlying245 Wm rfl rfl (bW.ow 4) oz oz fun w9 u6=>?_)
 have bP:=bW.un 4 u6
 refine ⟨⟨trivial,trivial⟩,?_⟩
 refine dj 2 14 (D:=jV bP 0 (k:=fun iy ck=>?_))
 refine ⟨trivial,?_⟩
 refine cv 2 [5,4,3,2] (h:=ab 2 (h:=cd (ck.b 9) (k:=?_)))
 have cU:av _ _ _ [[_,_,_,_,_,_,_,_],[_],[_]]:=av.of (ax.iW ck (l:=[0,8,1,2,3,4,5,6,7,9]) rfl rfl) rfl
 refine ab 0 (h:=aA (c:=JI _ _ _ d YO F_1 YL F_1.length wZ U1 DF QO xG mq xF xE uw (Kx.take (Kx.length-1)) uv xk wq xj xi iy (cU.dr 0) cB q1 ⟨ht1,ht2⟩ (VA▸hH) im) (k:=?_))
 rintro _ gS ⟨pW,jB,tp,jA,Xh,gV,yh,gU,iT,eQ,iS,Bn,rfl,u8,q4,q5⟩
 have cN:=cU.un 0 u8
 have dt:=cN.sn
 have acG:=S3 (n:=d.acc.length) (K:=(aZ d).length) q5.1 q4.part.bound q5.2
 rw [List.length_take] at acG
 exact cm 2 (h:=by exact ⟨pW,jB,tp,jA,Xh,gV,yh,gU,iT,eQ,iS,Bn,rfl,(dt.pm [0,2,3,4,5,6,7,8,1] rfl rfl),(by exact q4),oz,rfl⟩)
 obtain rfl:QO=U1.length:=bz.len (H6.GU 1 rfl)
 have aiO:=hH.part.len
 obtain ⟨hj1,yT⟩:=hH.blocks cB oz
 have Yc:ep d=xS d:=by rw [ep,if_pos cB]
 have hbN:rP d=((dd (pF d)).length:Int):=by rw [rP,if_pos cB]
 refine fI 3 H6 (h:=fun jz dw=>c7 3 3 (dw.b 0) (D:=fun _ hC=>aM hC) (h:=c7 3 7 (dw.b 0) (D:=fun _ hC=>aM hC) (h:=dj 0 8 (D:=aA (c:=CJ wZ U1 _ wZ U1 _ jz (dw.rt 1) (dw.rt 1) oz) (k:=?_)))))
 rintro _ kK ⟨bH,b6,rfl,u9⟩
 have fH:Uu10:=(dw.iZ u9).re rfl
 refine ⟨trivial,?_⟩
 refine gh 7 (h:=?_)
 rw [Yc,hbN,←hj1,←yT]
 exact ⟨bH,b6,rfl,(by have hh:=fH.kM 9;exact hh),(fun h9=>by rw [cB] at h9;cases h9)⟩
theorem Fb (d:au) (jN:aP) (j6:aP) (kG:aP) (jM:Nat) (j5:Nat) (kF:Nat) (w:World) (np:cP (aw .i64) w jN d.cls jM) (my:cP (aw .i64) w j6 d.next j5) (nY:cP bC w kG d.acc kF) (RP:d.cls.length≤100000):
 Calls Tryz.prog 85 #[.agg #[aH jN d.cls jM,ai d.width,ai d.start,aH j6 d.next j5,aH kG d.acc kF]] w (aX fun v w'=>∃ca,∃cc:Nat,∃na,∃nc:Nat,∃ba,∃bc:Nat,v= .tuple #[.agg #[aH ca ((iF d).cls) cc,ai ((iF d).width),ai ((iF d).start),aH na ((iF d).next) nc,aH ba ((iF d).acc) bc],ai (sC d)]∧ax w [] w' [cE (aw .i64) 3 ca ((iF d).cls) cc,cE (aw .i64) 3 na ((iF d).next) nc,cE bC 4 ba ((iF d).acc) bc]):=by
 have mI:=np.le
 have mH:=my.le
 have mJ:=nY.le
 refine cH Tryz.func85 (h:=fun H0=>ab 2 (h:=jf H0 (k:=fun w1 H1=>ab 0 (h:=dB H1 (k:=fun w2 H2=>ab 5 (h:=cd (H2.b 0) (k:=ab 0 (h:=aA (c:=Gg d jN j6 kG jM j5 kF w2 (np.at H2) (my.at H2) (nY.at H2)) (k:=?_)))))))))
 rintro _ w3 ⟨bH,b6,rfl,u3,q1⟩
 have H3:=H2.ns u3
 have acD:=fun e=>bz.L8 (H3.GU 2 rfl) e
 refine aN 11 rfl (wE Tryz.underlying25 rfl (aC 2 (fun NZ=>?_) fun NZ=>?_))
 refine ab 2 (h:=cu (k:=aY 0 (h:=bL H3 1 (k:=fun w4 H4=>gG 4 (h1:=cS (H4.b 1)) (h2:=dc) (h:=?_)))))
 have vZ:¬aD d=true:=fun h9=>by have h8:=acD NZ;have h7:=DE d;rw [ep,if_pos h9] at h8;rw [h8] at h7;have h6:=(bh.1 h9).1;simp only [List.length_nil] at h7;omega
 obtain ⟨e1,e2⟩:=Jx vZ
 rw [e1,e2]
 have H5:=H4.nr (aw .i64) 3
 have H6:=H5.nr (aw .i64) 3
 have H7:=H6.nr bC 4
 exact ⟨none,0,none,0,none,0,rfl,(H7.se [3,4,5])⟩
 have cB:aD d=true:=Classical.byContradiction fun h9=>NZ (q1 (by simpa using h9))
 have Ho:=bh.1 cB
 have Yc:ep d=xS d:=by rw [ep,if_pos cB]
 have KG:(ep d).length=d.acc.length:=by rw [Yc];exact DE d
 have Hz:x3 d (ep d):=by rw [Yc];exact N6 d
 refine aN 4 rfl (jo 259 (0:Int) (T:=(aw .i64)) rfl Tryz.underlying25 xv rfl rfl rfl rfl oz oz fun w5 u5=>?_)
 have H8:=H3.nw u5
 refine ab 7 (h:=cd (H8.b 0) (k:=ab 0 (h:=aA (c:=I9 d jN j6 kG jM j5 kF w5 (np.at H8) (my.at H8) (nY.at H8) oz) (k:=?_))))
 rintro _ w6 ⟨gF,n9,iO,rfl,u6,q2⟩
 have H9:=H8.ns u6
 have Fx:=(q2.2 cB).1
 have bW:=H9.ps [3,0,1,2,4]
 refine dA 5 [25,7,6,24,23,4,3,2,1] (fun B R L m e v=>∃k,∃cl:List Int,∃HZ HY cw,e=(25,b7 k)::(7,ai cw)::(6,aH HZ cl HY)::B∧av w L v ([cE (aw .i64) 3 HZ cl HY]::R)∧(k≤n9.length)∧(KL d (ep d) cl cw k)∧m=n9.length-k) (i:=⟨0,List.replicate 259 (0:Int),(some ⟨w3.heap.size,0,none⟩),259,0,rfl,bW,om,(by exact KL.start d _),rfl⟩) (h:=?_)
 rintro m1 Γ1 w7 ⟨k,cl,HZ,HY,cw,rfl,bP,hk,hC,rfl⟩
 have TO:=hC.len
 refine aC 6 (fun NY=>?_) fun NY=>?_
 refine ab 7 (h:=cg k (bP.rt 4) (k:=ab 0 (h:=cI (bP.rt 4) (k:=?_))))
 have hrs:=(q2.2 cB).2 k oz
 refine dv 11 (fun Ke=>?_) fun Ke=>?_
 exact ab 3 (h:=aV (k:=cm 2 (h:=by exact ⟨k+1,cl,HZ,HY,cw,rfl,bP,om,(by first|exact hC.join RF hI oz|exact hC.skip (fun h9=>by have h8:=hrs.2 h9;rw [h8] at Ke;exact absurd Ke (by decide))),rfl⟩)))
 have RF:To d d.start ((k:Nat):Int):=hrs.1 (N5 Ke)
 refine aN 4 rfl (jo 259 (0:Int) (T:=(aw .i64)) rfl Tryz.underlying25 xv rfl rfl rfl rfl oz oz fun w8 u7=>?_)
 have ck:=bP.nw u7
 refine ab 7 (h:=aM (ck.b 1) (k:=?_))
 have cU:=ck.ps [5,0,1,2,3,4]
 refine dA 5 [36,35,34,10,8,25,6,24,23,4,3,2,1] (fun B R L m e v=>∃y,∃to:List Int,e=(36,b7 y)::B∧av w L v ([ag (aw .i64) (.slice (some ⟨w7.heap.size,0,none⟩) ((List.replicate 259 (0:Int)).length) 259) 3 to]::R)∧(y≤d.cls.length)∧(R9 d (ep d) k to y)∧m=d.cls.length-y) (i:=⟨0,List.replicate 259 (0:Int),rfl,cU,om,(by exact R9.start d _ k),rfl⟩) (h:=?_)
 rintro m2 Γ2 w9 ⟨y,to,rfl,cN,hy,hI,rfl⟩
 refine aC 6 (fun NX=>?_) fun NX=>?_
 refine ab 7 (h:=cg y (np.at cN) (k:=ab 0 (h:=cI (np.at cN) (k:=?_))))
 have MU:=lH Ho.2.1 y oz
 have VO:=eA (q:=((k:Nat):Int)) cB oz oz MU.1 MU.2
 have VA:=hI.len
 exact ab 9 (h:=aM (cN.b 2) (k:=ab 2 (h:=aM (cN.b 2) (k:=ab 0 (h:=Ha (k:=ab 1 (h:=aV (k:=ab 0 (h:=cg (((((k:Nat):Int)*d.width)+(d.cls.getD y 0)).toNat) (my.at cN) (cD:=oz) (k:=ab 0 (h:=cI (my.at cN) (k:=ab 0 (h:=cg ((d.next.getD (((((k:Nat):Int)*d.width)+(d.cls.getD y 0)).toNat) 0).toNat) (cN.rt 4) (cD:=oz) (k:=ab 0 (h:=cI (cN.rt 4) (k:=ab 0 (h:=cg y (cN.rt 0) (k:=aY 0 (h:=tX ((ep d).getD ((d.next.getD (((((k:Nat):Int)*d.width)+(d.cls.getD y 0)).toNat) 0).toNat) 0) cN 0 (k:=fun iy dt=>cv 3 [36,35,34,10,8,25,6,24,23,4,3,2,1] (h:=ab 1 (h:=aV (k:=cm 2 (h:=by exact ⟨y+1,to.set y ((ep d).getD ((d.next.getD (((((k:Nat):Int)*d.width)+(d.cls.getD y 0)).toNat) 0).toNat) 0),rfl,dt,om,(by exact hI.step oz rfl),rfl⟩))))))))))))))))))))))))
 have ahp:=hI.len
 refine ab 5 (h:=aA (c:=sE HZ cl HY cl.length _ to 259 ((List.replicate 259 (0:Int)).length) w9 (cN.rt 1) (cN.rt 0) oz) (k:=?_))
 rintro _ gS ⟨s4,wQ,rfl,u9⟩
 have dw:Uu7:=(cN.iZ u9).re rfl
 exact ab 9 (h:=aV (k:=cm 2 (h:=by exact ⟨k+1,eJ cl to,s4,wQ,ja cl to,rfl,(dw.pm [6,2,3,4,5] rfl rfl),om,(by first|exact hC.join RF hI oz|exact hC.skip (fun h9=>by have h8:=hrs.2 h9;rw [h8] at Ke;exact absurd Ke (by decide))),rfl⟩)))
 obtain ⟨hc1,hc2⟩:=hC.fin cB Hz oz
 have hhd:=MT (jq d)
 rw [←hc1,←hc2] at hhd
 refine ab 4 (h:=cd (bP.b 1) (k:=ab 3 (h:=aA (c:=vL d jN j6 kG jM j5 kF bH (ep d) _ HZ cl HY _ w7 (np.at bP) (my.at bP) (nY.at bP) (bP.rt 3) (bP.rt 0) cB Hz KG hhd.1 hhd.2) (k:=?_))))
 rintro _ jz ⟨Mb,Pp,wZ,DF,rfl,uU⟩
 have fH:Uu7:=(bP.iZ uU).re rfl
 refine aY 0 (h:=bL fH 2 (k:=fun kK il=>gG 4 (h1:=cS (il.b 2)) (h2:=dc) (h:=?_)))
 obtain ⟨e1,e2⟩:=rk cB
 rw [e1,e2]
 rw [Yc,hc1,hc2] at*
 exact ⟨HZ,HY,Mb,Pp,wZ,DF,rfl,(il.se [0,5,6])⟩
end Go.Proofs.YtpbgmkhmdbchpaaGreatDoor
namespace Go.Sx
theorem Bt {p:Prop} (h:p:=by simp_all [vg]):p:=h
end Go.Sx
namespace Go.Proofs.YtpbgmkhmdbchpaaGreatDoor
open Go Go.Sx
theorem sd (a:au) (aca:aP) (ana:aP) (aba:aP) (acc:Nat) (anc:Nat) (abc:Nat) (b:au) (QS:aP) (QN:aP) (QU:aP) (QR:Nat) (QM:Nat) (QT:Nat) (w:World) (rca:cP (aw .i64) w aca a.cls acc) (rna:cP (aw .i64) w ana a.next anc) (rba:cP bC w aba a.acc abc) (rcb:cP (aw .i64) w QS b.cls QR) (rnb:cP (aw .i64) w QN b.next QM) (rbb:cP bC w QU b.acc QT):
 Calls Tryz.prog 42 #[.agg #[aH aca a.cls acc,ai a.width,ai a.start,aH ana a.next anc,aH aba a.acc abc],.agg #[aH QS b.cls QR,ai b.width,ai b.start,aH QN b.next QM,aH QU b.acc QT]] w (aX fun v w'=>v= .bool (vg a b)∧ax w [] w' []):=by
 have abX:=rca.le
 have abU:=rna.le
 have ab0:=rba.le
 have abW:=rcb.le
 have abT:=rnb.le
 have abZ:=rbb.le
 refine cH Tryz.func42 (h:=fun H0=>ab 2 (h:=jf H0 (k:=fun w1 H1=>ab 0 (h:=jf H1 (k:=fun w2 H2=>ab 6 (h:=aM (H2.b 0) (k:=ab 1 (h:=aM (H2.b 1) (k:=b9 2 10 (fun adA=>?_) fun adA=>?_)))))))))
 refine ab 1 (h:=aM (H2.b 0) (k:=ab 1 (h:=aM (H2.b 1) (k:=b9 3 17 (fun Yx=>?_) fun Yx=>?_))))
 refine ab 1 (h:=aM (H2.b 0) (k:=ab 1 (h:=aM (H2.b 1) (k:=ab 0 (h:=aA (c:=wB aca a.cls acc a.cls.length QS b.cls QR b.cls.length w2 (rca.at H2) (rcb.at H2)) (k:=?_))))))
 rintro _ w3 ⟨rfl,u3⟩
 have H3:=H2.call u3
 refine b9 2 24 (fun T2=>?_) fun T2=>?_
 refine ab 1 (h:=aM (H3.b 0) (k:=ab 1 (h:=aM (H3.b 1) (k:=ab 0 (h:=aA (c:=wB ana a.next anc a.next.length QN b.next QM b.next.length w3 (rna.at H3) (rnb.at H3)) (k:=?_))))))
 rintro _ w4 ⟨rfl,u4⟩
 have H4:=H3.call u4
 refine b9 2 31 (fun Qf=>?_) fun Qf=>?_
 refine ab 1 (h:=aM (H4.b 0) (k:=ab 1 (h:=aM (H4.b 1) (k:=ab 0 (h:=aA (c:=FO aba a.acc abc a.acc.length QU b.acc QT b.acc.length w4 (rba.at H4) (rbb.at H4)) (k:=?_))))))
 rintro _ w5 ⟨rfl,u5⟩
 have H5:=H4.call u5
 exact cv 4 [4] (h:=bE 1 (h:=⟨Bt,H5.af⟩))
 exact cv 9 [4] (h:=bE 1 (h:=⟨Bt,H4.af⟩))
 exact cv 16 [4] (h:=bE 1 (h:=⟨Bt,H3.af⟩))
 exact cv 23 [4] (h:=bE 1 (h:=⟨Bt,H2.af⟩))
 exact cv 30 [4] (h:=bE 1 (h:=⟨Bt,H2.af⟩))
open Go Go.Sx Go.RowKit
theorem CB (la:aP) (l:List Nd) (lc:Nat) (w:World) (rl:bz aJ w (.slice la l.length lc) l):
   Calls Tryz.prog 83 #[.slice la l.length lc] w (aX fun v w'=>∃a2:aP,∃c2:Nat,∃st:List aR,∃s0:Int,∃f0:Int,∃er:Int,v= .tuple #[.agg #[.slice a2 st.length c2,.int .i64 s0,.int .i64 f0],.int .i64 er]∧ax w [] w' [ag br (.slice a2 st.length c2) 193 st]∧(qC l st s0 f0 er)):=by
  refine aX.calls (E8 la l lc w rl) ?_
  rintro v w' ⟨a2,c2,n2,st,s0,f0,er,rfl,u,h⟩
  have hn:n2=st.length:=(cC (ax.hp u) (List.mem_singleton.2 rfl)).len
  subst hn
  exact ⟨a2,c2,st,s0,f0,er,rfl,u,h⟩
end Go.Proofs.YtpbgmkhmdbchpaaGreatDoor
namespace Go.Sx
theorem IA {p:Prop} (h:p:=by first|omega|(simp only [List.length_append,List.length_nil,List.length_cons,List.length_singleton,List.length_take];omega)):p:=h
end Go.Sx
namespace Go.Proofs.YtpbgmkhmdbchpaaGreatDoor
open Go Go.Sx
theorem vt (la:aP) (l:List Nd) (lc:Nat) (w:World) (rl:cP aJ w la l lc) (hl:l.length≤100000):
 Calls Tryz.prog 20 #[aH la l lc] w (aX fun v w'=>∃a2,∃c2:Nat,v=aH a2 (jR l) c2∧ax w [] w' [cE aJ 89 a2 (jR l) c2]):=by
 have eI:=rl.le
 refine cH Tryz.func20 (h:=fun H0=>ab 7 (h:=cu (us:=[aj Bs.zero.w0,aj Bs.zero.w1,aj Bs.zero.w2,aj Bs.zero.w3]) (k:=ab 0 (h:=aA (c:=oX Bs.zero w) (k:=?_)))))
 rintro _ w1 ⟨rfl,u1⟩
 have H1:=H0.call u1
 refine ab 0 (h:=cu (us:=[ai 1,aj (fF Bs.zero).w0,aj (fF Bs.zero).w1,aj (fF Bs.zero).w2,aj (fF Bs.zero).w3,ai 0,ai 0]) (k:=ab 0 (h:=cu (us:=[ai 7,aj Bs.zero.w0,aj Bs.zero.w1,aj Bs.zero.w2,aj Bs.zero.w3,ai 0,ai (-1)]) (k:=ab 0 (h:=dL aJ ([(⟨1,fF Bs.zero,0,0⟩:Nd),(⟨7,Bs.zero,0,-1⟩:Nd)]:List Nd) H1 (k:=fun w2 H2=>ab 7 (h:=kJ H2 0 (rl.at H2) (hb:=IA) (kW:=IA) (k:=fun a1 c1 w3 H3x=>?_))))))))
 have H3:=H3x.no
 refine ab 0 (h:=cu (us:=[ai 5,aj Bs.zero.w0,aj Bs.zero.w1,aj Bs.zero.w2,aj Bs.zero.w3,ai 0,ai 0]) (k:=ab 0 (h:=dL aJ ([(⟨5,Bs.zero,0,0⟩:Nd)]:List Nd) H3 (k:=fun w4 H4=>ab 0 (h:=kJ H4 0 (H4.rt 1) (hb:=IA) (kW:=IA) (k:=fun a2 c2 w5 ZM=>?_))))))
 have H5:=(ZM.drop 1).no
 exact bE 4 (h:=⟨a2,c2,rfl,(by have hh:=H5.kM 0;exact hh)⟩)
theorem FZ (la:aP) (l:List Nd) (lc:Nat) (w:World) (rl:cP aJ w la l lc) (hl:l.length≤100000):
 Calls Tryz.prog 58 #[aH la l lc] w (aX fun v w'=>∃a2 c2,v=aH a2 l c2∧ax w [] w' [cE aJ 89 a2 l c2]):=by
 have eI:=rl.le
 refine cH Tryz.func58 (h:=fun H0=>?_)
 refine aN 9 rfl (wE Tryz.underlying24 rfl (aC 2 (fun NS=>?_) fun NS=>?_))
 refine bE 6 (h:=?_)
 have e:l=[]:=rl.L8 NS
 subst e
 exact ⟨none,0,rfl,eC H0⟩
 refine aN 4 rfl (pN (T:=aJ) rfl Tryz.underlying24 Ld fun w1 u1=>?_)
 have H1:=H0.nw u1
 refine ab 1 (h:=kJ H1 0 (rl.at H1) (hb:=IA) (kW:=IA) (k:=fun a1 c1 w2 H2x=>?_))
 have H2:=H2x.no
 exact bE 4 (h:=⟨a1,c1,rfl,(by have hh:=H2.kM 0;exact hh)⟩)
theorem vr (la:aP) (l:List Nd) (lc:Nat) (az:Int) (w:World) (rl:cP aJ w la l lc) (rT:cP eM w (some ⟨0,0,none⟩) qu 64) (VJ:az≤1024):
 Calls Tryz.prog 59 #[aH la l lc,ai az] w (aX fun v w'=>∃d:au,∃er ca,∃cc na,∃nc ba bc,v= .tuple #[.agg #[aH ca d.cls cc,ai d.width,ai d.start,aH na d.next nc,aH ba d.acc bc],ai er]∧ax w [] w' [cE (aw .i64) 3 ca d.cls cc,cE (aw .i64) 3 na d.next nc,cE bC 4 ba d.acc bc]∧(gv l az d er)):=by
 have eI:=rl.le
 have jC:=rT.le
 refine cH Tryz.func59 (h:=fun H0=>ab 2 (h:=dB H0 (k:=fun w1 H1=>ab 6 (h:=aA (c:=CB la l lc w1 (rl.at H1)) (k:=?_)))))
 rintro _ w2 ⟨bH,b6,Sz,Wu,YQ,pD,rfl,u2,P3⟩
 have H2:=H1.ns u2
 refine ab 3 (h:=dB H2 (k:=fun w3 H3=>aY 0 (h:=bL H3 2 (k:=fun w4 H4=>aC 10 (fun Dv=>?_) fun Dv=>?_))))
 refine ab 2 (h:=cu (k:=aY 1 (h:=bL H4 0 (k:=fun w5 H5=>gG 4 (h1:=cS (H5.b 0)) (h2:=dc) (h:=?_)))))
 have H6:=H5.nr (aw .i64) 3
 have H7:=H6.nr (aw .i64) 3
 have H8:=H7.nr bC 4
 exact ⟨FX,pD,none,0,none,0,none,0,rfl,(H8.se [3,4,5]),⟨_,_,_,_,P3,.inl ⟨by omega,rfl,rfl⟩⟩⟩
 refine ab 4 (h:=cd (H4.b 2) (k:=ab 1 (h:=aA (c:=Es bH Sz _ _ _ _ w4 (H4.rt 1) (rT.at H4) (qC.okN (show qC l Sz Wu YQ 0 from (show pD=0 by omega)▸P3)) oz) (k:=?_))))
 rintro _ w6 ⟨VT,wA,UB,Y2,Mb,Pp,wZ,DF,rfl,u6,TR⟩
 have H9:=H4.ns u6
 refine ab 3 (h:=dB H9 (k:=fun w7 bW=>aY 0 (h:=bL bW 6 (k:=fun w8 bP=>aC 10 (fun Bg=>?_) fun Bg=>?_))))
 refine ab 2 (h:=cu (k:=aY 1 (h:=bL bP 0 (k:=fun w9 ck=>gG 4 (h1:=cS (ck.b 0)) (h2:=dc) (h:=?_)))))
 have cU:=ck.nr (aw .i64) 3
 have cN:=cU.nr (aw .i64) 3
 have dt:=cN.nr bC 4
 exact ⟨FX,wA,none,0,none,0,none,0,rfl,(dt.se [7,8,9]),⟨_,_,_,_,P3,.inr ⟨by omega,_,_,TR,.inl ⟨by omega,rfl,rfl⟩⟩⟩⟩
 have cB:=bh.1 (pG.right (show pG Sz Wu YQ az VT 0 from (show wA=0 by omega)▸TR) oz)
 refine ab 4 (h:=cd (bP.b 6) (k:=ab 0 (h:=aA (c:=Fb VT UB Mb wZ _ _ _ w8 (bP.rt 3) (bP.rt 4) (bP.rt 5) oz) (k:=?_))))
 rintro _ iy ⟨UA,Uz,SY,SX,U3,U2,rfl,uU⟩
 have dw:=bP.ns uU
 refine aY 2 (h:=bL dw 0 (k:=fun gS fH=>gG 4 (h1:=cS (fH.b 0)) (h2:=dc) (h:=?_)))
 have Ao:=rk (bh.2 cB)
 exact ⟨iF VT,sC VT,UA,Uz,SY,SX,U3,U2,rfl,(fH.se [7,8,9]),⟨_,_,_,_,P3,.inr ⟨by omega,_,_,TR,.inr ⟨by omega,Ao.2,Ao.1⟩⟩⟩⟩
theorem G2 (la:aP) (l:List Nd) (lc:Nat) (az:Int) (w:World) (rl:cP aJ w la l lc) (rT:cP eM w (some ⟨0,0,none⟩) qu 64) (hl:l.length≤100000) (VJ:az≤1024):
 Calls Tryz.prog 36 #[aH la l lc,ai az] w (aX fun v w'=>∃p:l8,∃er ta,∃tc YK,∃YJ YI,∃YH YN,∃YM Wr,∃scc Wp,∃Wo Wt,∃Ws QS,∃QR QN,∃QM QU QT,v= .tuple #[.agg #[aH ta p.tree tc,aH YK p.fw.cls YJ,ai p.fw.width,ai p.fw.start,aH YI p.fw.next YH,aH YN p.fw.acc YM,aH Wr p.se.cls scc,ai p.se.width,ai p.se.start,aH Wp p.se.next Wo,aH Wt p.se.acc Ws,aH QS p.bk.cls QR,ai p.bk.width,ai p.bk.start,aH QN p.bk.next QM,aH QU p.bk.acc QT],ai er]∧ax w [] w' [cE aJ 89 ta p.tree tc,cE (aw .i64) 3 YK p.fw.cls YJ,cE (aw .i64) 3 YI p.fw.next YH,cE bC 4 YN p.fw.acc YM,cE (aw .i64) 3 Wr p.se.cls scc,cE (aw .i64) 3 Wp p.se.next Wo,cE bC 4 Wt p.se.acc Ws,cE (aw .i64) 3 QS p.bk.cls QR,cE (aw .i64) 3 QN p.bk.next QM,cE bC 4 QU p.bk.acc QT]∧(Of l az p er)):=by
 have eI:=rl.le
 have jC:=rT.le
 refine cH Tryz.func36 (h:=fun H0=>ab 2 (h:=dB H0 (k:=fun w1 H1=>ab 6 (h:=aA (c:=Ef la l lc w1 (rl.at H1)) (k:=?_)))))
 rintro _ w2 ⟨bH,b6,nq,pD,rfl,u2,Tf⟩
 have H2:=H1.ns u2
 refine aC 14 (fun QJ=>?_) fun QJ=>?_
 refine ab 2 (h:=cu (k:=aY 1 (h:=bL H2 0 (k:=fun w3 H3=>gG 4 (h1:=cS (H3.b 0)) (h2:=dc) (h:=?_)))))
 have H4:=H3.nr aJ 89
 have H5:=H4.nr (aw .i64) 3
 have H6:=H5.nr (aw .i64) 3
 have H7:=H6.nr bC 4
 have H8:=H7.nr (aw .i64) 3
 have H9:=H8.nr (aw .i64) 3
 have bW:=H9.nr bC 4
 have bP:=bW.nr (aw .i64) 3
 have ck:=bP.nr (aw .i64) 3
 have cU:=ck.nr bC 4
 exact ⟨jG,pD,none,0,none,0,none,0,none,0,none,0,none,0,none,0,none,0,none,0,none,0,rfl,(cU.se [2,3,4,5,6,7,8,9,10,11]),(.inl ⟨(Tf.resolve_right (fun ⟨_,_,_,_,_,h9⟩=>by omega)).1,rfl,(Tf.resolve_right (fun ⟨_,_,_,_,_,h9⟩=>by omega)).2.2⟩)⟩
 obtain ⟨T,CN,v8,D2,XI,_⟩:=Tf.resolve_left (fun h9=>by omega)
 have ahQ:nq.length≤100000:=by rw [XI,j9,v8];exact hl
 refine ab 5 (h:=aA (c:=FZ la l lc w2 (rl.at H2) oz) (k:=?_))
 rintro _ w4 ⟨gF,iO,rfl,u4⟩
 have cN:=H2.ns u4
 refine ab 0 (h:=cu (k:=ab 0 (h:=dB cN (k:=fun w5 dt=>aY 0 (h:=bL dt 3 (k:=fun w6 dw=>ab 7 (h:=cu (k:=ab 1 (h:=aA (c:=vt la l lc w6 (rl.at dw) oz) (k:=?_))))))))))
 rintro _ w7 ⟨s4,wQ,rfl,u7⟩
 have fH:=dw.ns u7
 refine ab 1 (h:=cu (k:=ab 1 (h:=aA (c:=vt bH nq _ w7 (fH.rt 1) oz) (k:=?_))))
 rintro _ w8 ⟨Kn,UL,rfl,u8⟩
 have il:=fH.ns u8
 refine ab 1 (h:=cu (k:=ab 0 (h:=dL Wd ([(⟨la,l.length,lc,w4.heap.size,1⟩:Tp),(⟨s4,(jR l).length,wQ,w4.heap.size,6⟩:Tp),(⟨Kn,(jR nq).length,UL,w4.heap.size,11⟩:Tp)]:List Tp) il (k:=fun w9 jh=>cv 4 [36,35,34,8,5,4,1] (h:=abd 1 3 (h:=ab 13 (h:=jb 0 (jh.rt 6) (hj:=(by simp)) (k:=ab 0 (h:=Fl (jh.rt 6) (hj:=(by simp)) (k:=ab 0 (h:=dB jh (k:=fun iy eH=>aY 0 (h:=bL eH 7 (k:=fun gS lf=>fI 3 lf (h:=fun jz ji=>c7 1 1 (ji.b 7) (D:=fun _ hC=>aM hC) (h:=c7 1 3 (ji.b 7) (D:=fun _ hC=>aM hC) (h:=dj 1 5 (D:=aA (c:=vr la l lc _ jz (rl.at ji) (rT.at ji) oz) (k:=?_)))))))))))))))))))
 rintro _ kK ⟨VT,wA,UB,Y2,Mb,Pp,wZ,DF,rfl,tV,pS⟩
 have oI:=ji.ns tV
 refine ⟨⟨(oI.b 7),trivial,trivial⟩,?_⟩
 refine dj 4 10 (D:=bL oI 3 (k:=fun nH nF=>?_))
 refine ⟨⟨trivial,trivial⟩,?_⟩
 refine aC 9 (fun QH=>?_) fun QH=>?_
 refine ab 2 (h:=cu (k:=aY 1 (h:=bL nF 0 (k:=fun tU nE=>gG 4 (h1:=cS (nE.b 0)) (h2:=dc) (h:=?_)))))
 have pM:=nE.nr aJ 89
 have pL:=pM.nr (aw .i64) 3
 have rW:=pL.nr (aw .i64) 3
 have tS:=rW.nr bC 4
 have pK:=tS.nr (aw .i64) 3
 have mf:=pK.nr (aw .i64) 3
 have rV:=mf.nr bC 4
 have pY:=rV.nr (aw .i64) 3
 have xV:=pY.nr (aw .i64) 3
 have qF:=xV.nr bC 4
 exact ⟨jG,wA,none,0,none,0,none,0,none,0,none,0,none,0,none,0,none,0,none,0,none,0,rfl,(qF.se [11,12,13,14,15,16,17,18,19,20]),(.inr ⟨T,CN,v8,D2,XI▸(show fq l nq az jG _ by first|exact fq.e3 pS oz vY oz Hs oz|exact fq.e2 pS oz vY oz|exact fq.e1 pS oz)⟩)⟩
 refine ab 4 (h:=aV (k:=SH 2 [36,35,34,8,5,4,1] (h:=ab 13 (h:=jb 1 (nF.rt 6) (hj:=(by simp)) (k:=ab 0 (h:=Fl (nF.rt 6) (hj:=(by simp)) (k:=ab 0 (h:=dB nF (k:=fun ur A5=>aY 0 (h:=bL A5 11 (k:=fun xq Bh=>fI 3 Bh (h:=fun zn xg=>c7 1 1 (xg.b 11) (D:=fun _ hC=>aM hC) (h:=c7 1 3 (xg.b 11) (D:=fun _ hC=>aM hC) (h:=dj 1 5 (D:=aA (c:=vr s4 (jR l) _ _ zn (xg.rt 4) (rT.at xg) oz) (k:=?_))))))))))))))))
 rintro _ zm ⟨d_2,adR,UA,Uz,SY,SX,U3,U2,rfl,Iz,vY⟩
 have Iq:=xg.ns Iz
 refine ⟨⟨(Iq.b 11),trivial,trivial⟩,?_⟩
 refine dj 4 10 (D:=bL Iq 3 (k:=fun Ix Gm=>?_))
 refine ⟨⟨trivial,trivial⟩,?_⟩
 refine aC 9 (fun ad8=>?_) fun ad8=>?_
 refine ab 2 (h:=cu (k:=aY 1 (h:=bL Gm 0 (k:=fun Q9 OJ=>gG 4 (h1:=cS (OJ.b 0)) (h2:=dc) (h:=?_)))))
 have Sh:=OJ.nr aJ 89
 have Sg:=Sh.nr (aw .i64) 3
 have Vm:=Sg.nr (aw .i64) 3
 have Vl:=Vm.nr bC 4
 have Sf:=Vl.nr (aw .i64) 3
 have Se:=Sf.nr (aw .i64) 3
 have Ip:=Se.nr bC 4
 have ZO:=Ip.nr (aw .i64) 3
 have VZ:=ZO.nr (aw .i64) 3
 have VY:=VZ.nr bC 4
 exact ⟨jG,adR,none,0,none,0,none,0,none,0,none,0,none,0,none,0,none,0,none,0,none,0,rfl,(VY.se [15,16,17,18,19,20,21,22,23,24]),(.inr ⟨T,CN,v8,D2,XI▸(show fq l nq az jG _ by first|exact fq.e3 pS oz vY oz Hs oz|exact fq.e2 pS oz vY oz|exact fq.e1 pS oz)⟩)⟩
 refine ab 4 (h:=aV (k:=SH 2 [36,35,34,8,5,4,1] (h:=ab 13 (h:=jb 2 (Gm.rt 6) (hj:=(by simp)) (k:=ab 0 (h:=Fl (Gm.rt 6) (hj:=(by simp)) (k:=ab 0 (h:=dB Gm (k:=fun Oo VX=>aY 0 (h:=bL VX 15 (k:=fun Om H53=>fI 3 H53 (h:=fun Ol Vk=>c7 1 1 (Vk.b 15) (D:=fun _ hC=>aM hC) (h:=c7 1 3 (Vk.b 15) (D:=fun _ hC=>aM hC) (h:=dj 1 5 (D:=aA (c:=vr Kn (jR nq) _ _ Ol (Vk.rt 5) (rT.at Vk) oz) (k:=?_))))))))))))))))
 rintro _ Q8 ⟨d_3,adQ,adY,adX,abE,abD,aeD,aeC,rfl,u22,Hs⟩
 have H55:=Vk.ns u22
 refine ⟨⟨(H55.b 15),trivial,trivial⟩,?_⟩
 refine dj 4 10 (D:=bL H55 3 (k:=fun V9 ZN=>?_))
 refine ⟨⟨trivial,trivial⟩,?_⟩
 refine aC 9 (fun Zb=>?_) fun Zb=>?_
 refine ab 2 (h:=cu (k:=aY 1 (h:=bL ZN 0 (k:=fun Sn H57=>gG 4 (h1:=cS (H57.b 0)) (h2:=dc) (h:=?_)))))
 have H58:=H57.nr aJ 89
 have H59:=H58.nr (aw .i64) 3
 have H60:=H59.nr (aw .i64) 3
 have H61:=H60.nr bC 4
 have H62:=H61.nr (aw .i64) 3
 have H63:=H62.nr (aw .i64) 3
 have H64:=H63.nr bC 4
 have H65:=H64.nr (aw .i64) 3
 have H66:=H65.nr (aw .i64) 3
 have H67:=H66.nr bC 4
 exact ⟨jG,adQ,none,0,none,0,none,0,none,0,none,0,none,0,none,0,none,0,none,0,none,0,rfl,(H67.se [19,20,21,22,23,24,25,26,27,28]),(.inr ⟨T,CN,v8,D2,XI▸(show fq l nq az jG _ by first|exact fq.e3 pS oz vY oz Hs oz|exact fq.e2 pS oz vY oz|exact fq.e1 pS oz)⟩)⟩
 exact ab 4 (h:=aV (k:=SH 2 [36,35,34,8,5,4,1] (h:=ab 11 (h:=cd (ZN.b 3) (k:=aY 0 (h:=bL ZN 0 (k:=fun Sm H68=>gG 4 (h1:=cS (H68.b 0)) (h2:=dc) (h:=⟨⟨l,VT,d_2,d_3⟩,0,gF,iO,UB,Y2,Mb,Pp,wZ,DF,UA,Uz,SY,SX,U3,U2,adY,adX,abE,abD,aeD,aeC,rfl,(H68.se [2,8,9,10,12,13,14,16,17,18]),(.inr ⟨T,CN,v8,D2,XI▸(show fq l nq az _ _ from fq.ok pS oz vY oz Hs oz)⟩)⟩))))))))
theorem mC (z:ByteArray) (az:Int) (w:World) (rT:cP eM w (some ⟨0,0,none⟩) qu 64) (lw:Laid w):
 Calls Tryz.prog 11 #[.string z,ai az] w (aX fun v w'=>∃p:l8,∃at_ er,∃ta tc,∃YK YJ,∃YI YH,∃YN YM,∃Wr scc,∃Wp Wo,∃Wt Ws,∃QS QR,∃QN QM,∃QU QT,v= .tuple #[.agg #[aH ta p.tree tc,aH YK p.fw.cls YJ,ai p.fw.width,ai p.fw.start,aH YI p.fw.next YH,aH YN p.fw.acc YM,aH Wr p.se.cls scc,ai p.se.width,ai p.se.start,aH Wp p.se.next Wo,aH Wt p.se.acc Ws,aH QS p.bk.cls QR,ai p.bk.width,ai p.bk.start,aH QN p.bk.next QM,aH QU p.bk.acc QT],ai at_,ai er]∧ax w [] w' [cE aJ 89 ta p.tree tc,cE (aw .i64) 3 YK p.fw.cls YJ,cE (aw .i64) 3 YI p.fw.next YH,cE bC 4 YN p.fw.acc YM,cE (aw .i64) 3 Wr p.se.cls scc,cE (aw .i64) 3 Wp p.se.next Wo,cE bC 4 Wt p.se.acc Ws,cE (aw .i64) 3 QS p.bk.cls QR,cE (aw .i64) 3 QN p.bk.next QM,cE bC 4 QU p.bk.acc QT]∧(nK z az p at_ er)):=by
 have jC:=rT.le
 refine cH Tryz.func11 (h:=fun H0=>ab 2 (h:=dB H0 (k:=fun w1 H1=>ab 7 (h:=aA (c:=B8 _ w1 (rT.at H1) (lw.at H1)) (k:=?_)))))
 rintro _ w2 ⟨bH,b6,nq,pX,pD,rfl,u2,nz⟩
 have H2:=H1.ns u2
 have Fx:=(l9.len nz).1
 have Yf:=oE nq
 refine aC 18 (fun Y7=>?_) fun Y7=>?_
 refine ab 2 (h:=cu (k:=aY 2 (h:=bL H2 0 (k:=fun w3 H3=>xB 5 (h1:=cS (H3.b 0)) (h2:=dc) (h3:=dc) (h:=?_)))))
 have H4:=H3.nr aJ 89
 have H5:=H4.nr (aw .i64) 3
 have H6:=H5.nr (aw .i64) 3
 have H7:=H6.nr bC 4
 have H8:=H7.nr (aw .i64) 3
 have H9:=H8.nr (aw .i64) 3
 have bW:=H9.nr bC 4
 have bP:=bW.nr (aw .i64) 3
 have ck:=bP.nr (aw .i64) 3
 have cU:=ck.nr bC 4
 exact ⟨jG,pX,pD,none,0,none,0,none,0,none,0,none,0,none,0,none,0,none,0,none,0,none,0,rfl,(cU.se [2,3,4,5,6,7,8,9,10,11]),⟨_,_,_,nz,.inl ⟨by omega,rfl,rfl,rfl⟩⟩⟩
 refine b9 5 26 (fun JW=>?_) fun JW=>?_
 refine ab 9 (h:=cu (k:=aY 0 (h:=bL H2 0 (k:=fun w4 cN=>xB 5 (h1:=cS (cN.b 0)) (h2:=dc) (h3:=dc) (h:=?_)))))
 have dt:=cN.nr aJ 89
 have dw:=dt.nr (aw .i64) 3
 have fH:=dw.nr (aw .i64) 3
 have il:=fH.nr bC 4
 have jh:=il.nr (aw .i64) 3
 have eH:=jh.nr (aw .i64) 3
 have lf:=eH.nr bC 4
 have ji:=lf.nr (aw .i64) 3
 have oI:=ji.nr (aw .i64) 3
 have nF:=oI.nr bC 4
 exact ⟨jG,0,1,none,0,none,0,none,0,none,0,none,0,none,0,none,0,none,0,none,0,none,0,rfl,(nF.se [2,3,4,5,6,7,8,9,10,11]),⟨_,_,_,nz,.inr ⟨by omega,.inl ⟨by omega,rfl,rfl,rfl⟩⟩⟩⟩
 refine aC 6 (fun Y6=>?_) fun Y6=>?_
 refine ab 2 (h:=cu (k:=aY 0 (h:=bL H2 0 (k:=fun w5 nE=>xB 5 (h1:=cS (nE.b 0)) (h2:=dc) (h3:=dc) (h:=?_)))))
 have pM:=nE.nr aJ 89
 have pL:=pM.nr (aw .i64) 3
 have rW:=pL.nr (aw .i64) 3
 have tS:=rW.nr bC 4
 have pK:=tS.nr (aw .i64) 3
 have mf:=pK.nr (aw .i64) 3
 have rV:=mf.nr bC 4
 have pY:=rV.nr (aw .i64) 3
 have xV:=pY.nr (aw .i64) 3
 have qF:=xV.nr bC 4
 exact ⟨jG,0,1,none,0,none,0,none,0,none,0,none,0,none,0,none,0,none,0,none,0,none,0,rfl,(qF.se [2,3,4,5,6,7,8,9,10,11]),⟨_,_,_,nz,.inr ⟨by omega,.inl ⟨by omega,rfl,rfl,rfl⟩⟩⟩⟩
 refine ab 3 (h:=aA (c:=vt bH nq _ w2 (H2.rt 1) oz) (k:=?_))
 rintro _ w6 ⟨gF,iO,rfl,u6⟩
 have A5:=H2.ns u6
 refine ab 0 (h:=aA (c:=p5 gF (jR nq) _ w6 (A5.rt 2)) (k:=?_))
 rintro _ w7 ⟨rfl,u7⟩
 have Bh:=A5.call u7
 refine dv 4 (fun D9=>?_) fun D9=>?_
 refine ab 2 (h:=cu (k:=aY 0 (h:=bL Bh 0 (k:=fun w8 xg=>xB 5 (h1:=cS (xg.b 0)) (h2:=dc) (h3:=dc) (h:=?_)))))
 have Iq:=xg.nr aJ 89
 have Gm:=Iq.nr (aw .i64) 3
 have OJ:=Gm.nr (aw .i64) 3
 have Sh:=OJ.nr bC 4
 have Sg:=Sh.nr (aw .i64) 3
 have Vm:=Sg.nr (aw .i64) 3
 have Vl:=Vm.nr bC 4
 have Sf:=Vl.nr (aw .i64) 3
 have Se:=Sf.nr (aw .i64) 3
 have Ip:=Se.nr bC 4
 exact ⟨jG,0,4,none,0,none,0,none,0,none,0,none,0,none,0,none,0,none,0,none,0,none,0,rfl,(Ip.se [3,4,5,6,7,8,9,10,11,12]),⟨_,_,_,nz,.inr ⟨by omega,.inr ⟨by omega,by omega,.inl ⟨by simpa using D9,rfl,rfl,rfl⟩⟩⟩⟩⟩
 refine ab 7 (h:=aA (c:=G2 bH nq _ _ w7 (Bh.rt 1) (rT.at Bh) oz oz) (k:=?_))
 rintro _ w9 ⟨EN,wA,Ei,IH,y2,HG,yY,HF,y3,HH,yq,GJ,yk,GH,yr,GK,zi,Ih,zh,Ie,zj,Ii,rfl,u9,yR⟩
 have ZO:=Bh.ns u9
 exact ab 3 (h:=dB ZO (k:=fun iy VZ=>aY 0 (h:=bL VZ 13 (k:=fun gS VY=>cv 3 [9,10,6,5,4] (h:=ab 2 (h:=cd (VY.b 13) (k:=aY 1 (h:=bL VY 0 (k:=fun jz VX=>xB 5 (h1:=cS (VX.b 0)) (h2:=dc) (h3:=dc) (h:=⟨EN,0,wA,Ei,IH,y2,HG,yY,HF,y3,HH,yq,GJ,yk,GH,yr,GK,zi,Ih,zh,Ie,zj,Ii,rfl,(VX.se [3,4,5,6,7,8,9,10,11,12]),⟨_,_,_,nz,.inr ⟨by omega,.inr ⟨by omega,by omega,.inr ⟨by simpa using D9,rfl,yR⟩⟩⟩⟩⟩))))))))))
theorem EO (aTa:aP) (aT:List Nd) (aTc:Nat) (aF:au) (Vb:aP) (Va:aP) (Vc:aP) (Zx:Nat) (Zw:Nat) (Zy:Nat) (aS:au) (U8:aP) (U7:aP) (U9:aP) (Zu:Nat) (Zt:Nat) (Zv:Nat) (aB:au) (Ve:aP) (Vd:aP) (Vf:aP) (ZA:Nat) (Zz:Nat) (ZB:Nat) (w:World) (raT:cP aJ w aTa aT aTc) (WE:cP (aw .i64) w Vb aF.cls Zx) (Ww:cP (aw .i64) w Va aF.next Zw) (WI:cP bC w Vc aF.acc Zy) (WC:cP (aw .i64) w U8 aS.cls Zu) (Wv:cP (aw .i64) w U7 aS.next Zt) (WH:cP bC w U9 aS.acc Zv) (WG:cP (aw .i64) w Ve aB.cls ZA) (Wx:cP (aw .i64) w Vd aB.next Zz) (WJ:cP bC w Vf aB.acc ZB) (rT:cP eM w (some ⟨0,0,none⟩) qu 64) (hl:aT.length≤100000):
 Calls Tryz.prog 18 #[.agg #[aH aTa aT aTc,aH Vb aF.cls Zx,ai aF.width,ai aF.start,aH Va aF.next Zw,aH Vc aF.acc Zy,aH U8 aS.cls Zu,ai aS.width,ai aS.start,aH U7 aS.next Zt,aH U9 aS.acc Zv,aH Ve aB.cls ZA,ai aB.width,ai aB.start,aH Vd aB.next Zz,aH Vf aB.acc ZB]] w (aX fun v w'=>∃r:Bool,v= .bool r∧ax w [] w' []∧(ZK aT aF aS aB r)):=by
 have ab1:=raT.le
 have Z5:=WE.le
 have Z1:=Ww.le
 have Z8:=WI.le
 have Z4:=WC.le
 have Z0:=Wv.le
 have Z7:=WH.le
 have Z6:=WG.le
 have Z2:=Wx.le
 have Z9:=WJ.le
 have jC:=rT.le
 refine cH Tryz.func18 (h:=fun H0=>ab 2 (h:=jf H0 (k:=fun w1 H1=>ab 6 (h:=aM (H1.b 0) (k:=ab 0 (h:=aA (c:=G2 aTa aT aTc _ w1 (raT.at H1) (rT.at H1) oz oz) (k:=?_)))))))
 rintro _ w2 ⟨EN,pD,Ei,IH,y2,HG,yY,HF,y3,HH,yq,GJ,yk,GH,yr,GK,zi,Ih,zh,Ie,zj,Ii,rfl,u2,yR⟩
 have H2:=H1.ns u2
 refine ab 3 (h:=dB H2 (k:=fun w3 H3=>aY 0 (h:=bL H3 11 (k:=fun w4 H4=>b9 8 13 (fun RU=>?_) fun RU=>?_))))
 refine ab 1 (h:=cd (H4.b 11) (k:=ab 1 (h:=cd (H4.b 0) (k:=ab 0 (h:=aA (c:=sd EN.fw y2 yY y3 _ _ _ aF Vb Va Vc _ _ _ w4 (H4.rt 2) (H4.rt 3) (H4.rt 4) (WE.at H4) (Ww.at H4) (WI.at H4)) (k:=?_))))))
 rintro _ w5 ⟨rfl,u5⟩
 have H5:=H4.call u5
 refine iX 2 20 (fun adj=>?_) fun adj=>?_
 refine ab 1 (h:=cd (H5.b 11) (k:=ab 1 (h:=cd (H5.b 0) (k:=ab 0 (h:=aA (c:=sd EN.se yq yk yr _ _ _ aS U8 U7 U9 _ _ _ w5 (H5.rt 5) (H5.rt 6) (H5.rt 7) (WC.at H5) (Wv.at H5) (WH.at H5)) (k:=?_))))))
 rintro _ w6 ⟨rfl,u6⟩
 have H6:=H5.call u6
 refine iX 2 27 (fun Ym=>?_) fun Ym=>?_
 refine ab 1 (h:=cd (H6.b 11) (k:=ab 1 (h:=cd (H6.b 0) (k:=ab 0 (h:=aA (c:=sd EN.bk zi zh zj _ _ _ aB Ve Vd Vf _ _ _ w6 (H6.rt 8) (H6.rt 9) (H6.rt 10) (WG.at H6) (Wx.at H6) (WJ.at H6)) (k:=?_))))))
 rintro _ w7 ⟨rfl,u7⟩
 have H7:=H6.call u7
 exact cv 4 [2] (h:=bE 1 (h:=⟨vg EN.bk aB,rfl,H7.af,⟨_,_,yR,by simp_all⟩⟩))
 exact cv 9 [2] (h:=bE 1 (h:=⟨false,rfl,H6.af,⟨_,_,yR,by simp_all⟩⟩))
 exact cv 16 [2] (h:=bE 1 (h:=⟨false,rfl,H5.af,⟨_,_,yR,by simp_all⟩⟩))
 exact cv 23 [2] (h:=bE 1 (h:=⟨false,rfl,H4.af,⟨_,_,yR,by simp_all⟩⟩))
theorem JT (z:ByteArray) (w:World):
 Calls Tryz.prog 10 #[.string z] w (aX fun v w'=>∃b:Bool,v= .bool b∧ax w [] w' []∧(ae3 z b)):=by
 refine cH Tryz.func10 (h:=fun H0=>ab 8 (h:=aA (c:=zD _ w) (k:=?_)))
 rintro _ w1 ⟨bH,b6,nq,pX,pD,rfl,u1,nz⟩
 have H1:=H0.ns u1
 refine b9 14 14 (fun RV=>?_) fun RV=>?_
 obtain ⟨⟨T,CN,D2,v8⟩,hl5,_⟩:=l9.tree (show l9 z nq pX 0 from (show pD=0 from RV)▸nz)
 have hp5:=dV T
 have Yh:T.flat.length=nq.length:=by rw [v8]
 have TQ:Sub nq (nq.length-1) T:=by have h9:=Sub.self CN;rw [v8] at h9;exact h9
 refine ab 3 (h:=kB (k:=ab 0 (h:=aA (c:=I0 bH nq _ _ (nq.length-1) T w1 (H1.rt 0) oz oz TQ D2) (k:=?_))))
 rintro _ w2 ⟨rfl,u2⟩
 have H2:=H1.call u2
 exact bE 6 (h:=⟨decide ((aU T)>(50:Int)),rfl,H2.af,(by first|exact ⟨_,_,_,nz,.inl ⟨RV,rfl⟩⟩|exact ⟨_,_,_,nz,.inr ⟨RV,T,CN,D2,v8,rfl⟩⟩)⟩)
 exact bE 11 (h:=⟨false,rfl,H1.af,(by first|exact ⟨_,_,_,nz,.inl ⟨RV,rfl⟩⟩|exact ⟨_,_,_,nz,.inr ⟨RV,T,CN,D2,v8,rfl⟩⟩)⟩)
theorem DG (w:World) (rT:cP eM w (some ⟨0,0,none⟩) qu 64) (lw:Laid w):
 Calls Tryz.prog 9 #[] w (aX fun v w'=>v= .bool true∧ax w [] w' []):=by
 have jC:=rT.le
 refine cH Tryz.func9 (h:=fun H0=>ab 7 (h:=aA (c:=mC _ _ w (rT.at H0) (lw.at H0)) (k:=?_)))
 rintro _ w1 ⟨EN,pX,pD,Ei,IH,y2,HG,yY,HF,y3,HH,yq,GJ,yk,GH,yr,GK,zi,Ih,zh,Ie,zj,Ii,rfl,u1,Hy⟩
 have H1:=H0.ns u1
 refine ab 4 (h:=dB H1 (k:=fun w2 H2=>aY 0 (h:=bL H2 10 (k:=fun w3 H3=>ab 6 (h:=aA (c:=mC _ _ w3 (rT.at H3) (lw.at H3)) (k:=?_))))))
 rintro _ w4 ⟨Pd,DH,wA,aa5,agX,M8,agn,M6,agm,M9,ago,Rh,afl,Rg,afk,Ri,afm,Zq,agz,Zo,agv,Zr,agA,rfl,u4,RO⟩
 have H4:=H3.ns u4
 refine ab 4 (h:=dB H4 (k:=fun w5 H5=>aY 0 (h:=bL H5 21 (k:=fun w6 H6=>?_))))
 obtain ⟨ha5,he5⟩:=J8 Hy
 obtain ⟨hb5,v8,ht5⟩:=FY RO W0 Uy Ux ⟨by decide,by decide⟩
 have RQ:nK ⟨#[97]⟩ 9 Pd DH 0:=v8▸RO
 obtain ⟨OC,tD,PU⟩:=Ff RQ ht5 dk
 have aho:Pd.tree.length≤100000:=by rw [ht5];simp [vO,Tr.flat]
 refine b9 9 19 (fun g20=>?_) fun g20=>?_
 refine b9 4 23 (fun adu=>?_) fun adu=>?_
 refine b9 4 27 (fun Ys=>?_) fun Ys=>?_
 refine ab 1 (h:=cd (H6.b 21) (k:=ab 0 (h:=dL (aw .i64) [97] H6 (k:=fun w7 H7=>ab 0 (h:=aA (c:=gP Pd.fw M8 M6 M9 _ _ _ _ [97] _ w7 (H7.rt 12) (H7.rt 13) (H7.rt 14) (H7.rt 22)) (k:=?_))))))
 rintro _ w8 ⟨rfl,u8⟩
 have H8:=H7.call u8
 refine iX 2 33 (fun TX=>?_) fun TX=>?_
 refine ab 1 (h:=cd (H8.b 21) (k:=ab 0 (h:=dL (aw .i64) [98,97] H8 (k:=fun w9 H9=>ab 0 (h:=aA (c:=gP Pd.fw M8 M6 M9 _ _ _ _ [98,97] _ w9 (H9.rt 12) (H9.rt 13) (H9.rt 14) (H9.rt 23)) (k:=?_))))))
 rintro _ iy ⟨rfl,uU⟩
 have bW:=H9.call uU
 refine iX 3 40 (fun Qc=>?_) fun Qc=>?_
 refine ab 1 (h:=cd (bW.b 21) (k:=ab 0 (h:=dL (aw .i64) [98,97] bW (k:=fun gS bP=>ab 0 (h:=aA (c:=gP Pd.se Rh Rg Ri _ _ _ _ [98,97] _ gS (bP.rt 15) (bP.rt 16) (bP.rt 17) (bP.rt 24)) (k:=?_))))))
 rintro _ jz ⟨rfl,tV⟩
 have ck:=bP.call tV
 refine iX 2 46 (fun M1=>?_) fun M1=>?_
 refine ab 0 (h:=cd (ck.b 21) (k:=ab 0 (h:=aA (c:=EO aa5 Pd.tree _ Pd.fw M8 M6 M9 _ _ _ Pd.se Rh Rg Ri _ _ _ Pd.bk Zq Zo Zr _ _ _ jz (ck.rt 11) (ck.rt 12) (ck.rt 13) (ck.rt 14) (ck.rt 15) (ck.rt 16) (ck.rt 17) (ck.rt 18) (ck.rt 19) (ck.rt 20) (rT.at ck) oz) (k:=?_))))
 rintro _ kK ⟨r_1,rfl,zu,ry⟩
 have cU:=ck.call zu
 exact cv 4 [0] (h:=bE 1 (h:=⟨(by first|(rw [iM RQ ry];done)|(simp_all;done)),cU.af⟩))
 exact cv 6 [0] (h:=bE 1 (h:=⟨(by first|(rw [iM RQ ry];done)|(simp_all;done)),ck.af⟩))
 exact cv 12 [0] (h:=bE 1 (h:=⟨(by first|(rw [iM RQ ry];done)|(simp_all;done)),bW.af⟩))
 exact cv 19 [0] (h:=bE 1 (h:=⟨(by first|(rw [iM RQ ry];done)|(simp_all;done)),H8.af⟩))
 exact cv 25 [0] (h:=bE 1 (h:=⟨(by first|(rw [iM RQ ry];done)|(simp_all;done)),H6.af⟩))
 exact cv 29 [0] (h:=bE 1 (h:=⟨(by first|(rw [iM RQ ry];done)|(simp_all;done)),H6.af⟩))
 exact cv 33 [0] (h:=bE 1 (h:=⟨(by first|(rw [iM RQ ry];done)|(simp_all;done)),H6.af⟩))
theorem oT (nI:Int) (n:Nat) (w:World) (e_n:nI=((n:Nat):Int)) (hn:n≤1000):
 Calls Tryz.prog 64 #[ai nI] w (aX fun v w'=>∃a2,∃ps:List (LR Bool),∃n2:Nat,∃c2,v= .slice a2 n2 c2∧ax w [] w' [ag aK (.slice a2 n2 c2) 26 ps,ao (aG bC 4).row ps]∧(lF n (fun _ _=>False) ps)∧(n2=n+1)):=by
 subst e_n
 refine cH Tryz.func64 (h:=fun H0=>?_)
 have H1:=H0.nw (ax.mF (aG bC 4).row w)
 have H2:=H1.nr (aK:Ty (LR Bool)) 26
 refine dA 17 [4,3,2,0] (fun B R L m e v=>∃k,∃ps:List (LR Bool),∃oa oc,e=(4,b7 k)::(3,aH oa ps oc)::B∧av w L v ([ao (aG bC 4).row ps]::[cE aK 26 oa ps oc]::R)∧(k≤n+1)∧(Q1 n k ps)∧m=n+1-k) (i:=⟨0,([]:List (LR Bool)),none,0,rfl,H2,om,(by exact Q1.start n),rfl⟩) (h:=?_)
 rintro m1 Γ1 w1 ⟨k,ps,oa,oc,rfl,H3,hk,hX,rfl⟩
 have hXl:=hX.1
 refine aC 8 (fun UY=>?_) fun UY=>?_
 refine ab 7 (h:=aV (k:=?_))
 refine aN 0 rfl (jo (n+1) false (T:=bC) rfl Tryz.underlying26 Wl rfl rfl rfl rfl oz oz fun w2 u1=>?_)
 have H4:=H3.nw u1
 refine ab 0 (h:=dL aK ([⟨(some ⟨w1.heap.size,0,none⟩),(List.replicate (n+1) false).length,n+1,List.replicate (n+1) false⟩]:List (LR Bool)) H4 (k:=fun w3 H5=>ab 0 (h:=kJ H5 1 (H5.rt 3) (k:=fun a1 c1 w4 Vj=>?_))))
 have H6:=(Vj.drop 3).no
 have H7:Uu2x2:=(av.ng (f:=(aG bC 4).row) (⟨(some ⟨w1.heap.size,0,none⟩),(List.replicate (n+1) false).length,n+1,List.replicate (n+1) false⟩:(LR Bool)) H6 0 2 rfl rfl rfl).re rfl
 exact ab 6 (h:=aV (k:=cm 2 (h:=by exact ⟨k+1,ps++([⟨(some ⟨w1.heap.size,0,none⟩),(List.replicate (n+1) false).length,n+1,List.replicate (n+1) false⟩]:List (LR Bool)),a1,c1,rfl,(H7.re rfl),om,(by exact hX.push rfl),rfl⟩)))
 exact bE 9 (h:=⟨oa,ps,ps.length,oc,rfl,(H3.se [1,0]),hX.fin oz,oz⟩)
theorem yx (nI:Int) (n:Nat) (w:World) (e_n:nI=((n:Nat):Int)) (hn:n≤1000):
 Calls Tryz.prog 66 #[ai nI] w (aX fun v w'=>∃a2,∃ps:List (LR Bool),∃n2:Nat,∃c2,v= .slice a2 n2 c2∧ax w [] w' [ag aK (.slice a2 n2 c2) 26 ps,ao (aG bC 4).row ps]∧(lF n (fun i j=>i=j) ps)∧(n2=n+1)):=by
 subst e_n
 refine cH Tryz.func66 (h:=fun H0=>ab 8 (h:=aA (c:=oT _ n w oz oz) (k:=?_)))
 rintro _ w1 ⟨bH,bF,ll,b6,rfl,u1,iH,TE⟩
 have H1:=H0.ns u1
 refine dA 10 [4,3,2,0] (fun B R L m e v=>∃i,∃Y:List (LR Bool),e=(4,b7 i)::B∧av w L v ([ag aK (.slice bH ll b6) 26 Y]::[ao (aG bC 4).row Y]::R)∧(i≤n+1)∧(lF n (fun a b=>a=b∧a<i) Y)∧m=n+1-i) (i:=⟨0,bF,rfl,H1,om,(by exact iH.congr (fun a b _ _=>⟨False.elim,fun h9=>absurd h9.2 oz⟩)),rfl⟩) (h:=?_)
 rintro m1 Γ1 w2 ⟨i,Y,rfl,H2,hi,hY,rfl⟩
 have hYl:=hY.len
 have hYr:=fun (h9:i≤n)=>hY.row h9
 refine aC 8 (fun wV=>?_) fun wV=>?_
 refine ab 7 (h:=cg i (H2.rt 0) (k:=ab 0 (h:=cI (H2.rt 0) (k:=ab 1 (h:=cg i (show bz bC w2 (.slice ((Y.getD i ae).a) ((Y.getD i ae).n) ((Y.getD i ae).c)) ((Y.getD i ae).xs) from (eK.own (H2.bU 1 rfl)).get ae i oz) (k:=?_))))))
 have H3:Uu3:=H2.ei (f:=(aG bC 4).row) ae 1 i rfl oz
 refine aY 0 (h:=tX true H3 2 (xs:=((Y.getD i ae).xs)) (k:=fun w3 H4=>?_))
 have H5:Uu2x1:=(H4.eo (f:=(aG bC 4).row) ⟨(Y.getD i ae).a,(Y.getD i ae).n,(Y.getD i ae).c,((Y.getD i ae).xs).set i true⟩ 1 2 i rfl rfl rfl oz).re rfl
 have H6:Uu2x1:=H5.lh (((Y.getD i ae).xs).set i true) 0 i rfl oz
 exact ab 5 (h:=aV (k:=cm 2 (h:=by exact ⟨i+1,Y.set i ⟨(Y.getD i ae).a,(Y.getD i ae).n,(Y.getD i ae).c,((Y.getD i ae).xs).set i true⟩,rfl,(H6.re rfl),om,(by exact hY.put oz oz (by simp) (fun a b _ _ h9=>by omega)),rfl⟩)))
 exact bE 9 (h:=⟨bH,Y,ll,b6,rfl,(H2.se [0,1]),hY.congr (fun a b _ _=>by omega),oz⟩)
theorem jF (aa:aP) (a:List (LR Bool)) (ac:Nat) (an:Nat) (ba:aP) (b:List (LR Bool)) (bc:Nat) (bn:Nat) (n:Nat) (F:Nat→Nat→Prop) (G:Nat→Nat→Prop) (w:World) (ra:bz aK w (.slice aa an ac) a) (rb:bz aK w (.slice ba bn bc) b) (da:(aG bC 4).Rd w a) (db:(aG bC 4).Rd w b) (hn:n≤1000) (hA:lF n F a) (hB:lF n G b):
 Calls Tryz.prog 67 #[.slice aa an ac,.slice ba bn bc] w (aX fun v w'=>∃a2,∃ps:List (LR Bool),∃n2:Nat,∃c2,v= .slice a2 n2 c2∧ax w [] w' [ag aK (.slice a2 n2 c2) 26 ps,ao (aG bC 4).row ps]∧(lF n (Kt F G) ps)∧(n2=n+1)):=by
 obtain rfl:an=a.length:=ra.len
 obtain rfl:bn=b.length:=rb.len
 have hAl:=hA.len
 have hBl:=hB.len
 have Xm:=ra.le
 have Rz:=rb.le
 refine cH Tryz.func67 (h:=fun H0=>ab 9 (h:=kB (k:=ab 6 (h:=aA (c:=oT _ n w oz oz) (k:=?_)))))
 rintro _ w1 ⟨bH,bF,ll,b6,rfl,u1,iH,TE⟩
 have H1:=H0.ns u1
 refine dA 10 [7,6,5,4,0,1] (fun B R L m e v=>∃i,∃Y:List (LR Bool),e=(7,b7 i)::B∧av w L v ([ag aK (.slice bH ll b6) 26 Y]::[ao (aG bC 4).row Y]::R)∧(i≤n+1)∧(lF n (fe F G i i i) Y)∧m=n+1-i) (i:=⟨0,bF,rfl,H1,om,(by exact iH.congr (fun a b _ _=>fe.start)),rfl⟩) (h:=?_)
 rintro m1 Γ1 w2 ⟨i,Y,rfl,H2,hi,hY,rfl⟩
 refine aC 8 (fun Gd=>?_) fun Gd=>?_
 refine dA 11 [8,7,6,5,4,0,1] (fun B R L m e v=>∃mm,∃Z:List (LR Bool),e=(8,b7 mm)::B∧av w L v ([ag aK (.slice bH ll b6) 26 Z]::[ao (aG bC 4).row Z]::R)∧(i≤mm∧mm≤n+1)∧(lF n (fe F G i mm mm) Z)∧m=n+1-mm) (i:=⟨i,Y,rfl,H2,om,(by exact hY),rfl⟩) (h:=?_)
 rintro m2 Γ2 w3 ⟨mm,Z,rfl,H3,hm,hZ,rfl⟩
 refine aC 8 (fun aex=>?_) fun aex=>?_
 refine dA 11 [9,8,7,6,5,4,0,1] (fun B R L m e v=>∃j,∃U:List (LR Bool),e=(9,b7 j)::B∧av w L v ([ag aK (.slice bH ll b6) 26 U]::[ao (aG bC 4).row U]::R)∧(mm≤j∧j≤n+1)∧(lF n (fe F G i mm j) U)∧m=n+1-j) (i:=⟨mm,Z,rfl,H3,om,(by exact hZ),rfl⟩) (h:=?_)
 rintro m3 Γ3 w4 ⟨j,U,rfl,H4,hj,hU,rfl⟩
 have hUl:=hU.len
 have hAr:=fun (h9:i≤n)=>hA.row h9
 have hBr:=fun (h9:mm≤n)=>hB.row h9
 have hUr:=fun (h9:i≤n)=>hU.row h9
 refine b9 7 30 (fun adD=>?_) fun adD=>?_
 refine ab 2 (h:=cg i (ra.at H4) (k:=ab 0 (h:=cI (ra.at H4) (k:=ab 1 (h:=cg mm (show bz bC w4 (.slice ((a.getD i ae).a) ((a.getD i ae).n) ((a.getD i ae).c)) ((a.getD i ae).xs) from (da.at H4).get ae i oz) (k:=ab 0 (h:=cI (show bz bC w4 (.slice ((a.getD i ae).a) ((a.getD i ae).n) ((a.getD i ae).c)) ((a.getD i ae).xs) from (da.at H4).get ae i oz) (k:=dv 3 (fun xR=>?_) fun xR=>?_))))))))
 have hF9:=(hA.get oz oz).1 xR
 refine fI 4 H4 (h:=fun w5 H5=>cp 2 2 (H5.rt 0) (D:=fun _ hC=>cg i hC) (h:=cp 0 3 (H5.rt 0) (D:=fun _ hC=>cI hC) (h:=cp 3 7 (H5.rt 0) (D:=fun _ hC=>cg i hC) (h:=cp 0 8 (H5.rt 0) (D:=fun _ hC=>cI hC) (h:=cp 1 10 (show bz bC w5 (.slice ((U.getD i ae).a) ((U.getD i ae).n) ((U.getD i ae).c)) ((U.getD i ae).xs) from (eK.own (H5.bU 1 rfl)).get ae i oz) (D:=fun _ hC=>cg j hC) (h:=cp 0 11 (show bz bC w5 (.slice ((U.getD i ae).a) ((U.getD i ae).n) ((U.getD i ae).c)) ((U.getD i ae).xs) from (eK.own (H5.bU 1 rfl)).get ae i oz) (D:=fun _ hC=>cI hC) (h:=yA 1 53 (fun M5=>?_) fun M5=>?_)))))))
 refine cp 8 21 (show bz bC w5 (.slice ((U.getD i ae).a) ((U.getD i ae).n) ((U.getD i ae).c)) ((U.getD i ae).xs) from (eK.own (H5.bU 1 rfl)).get ae i oz) (D:=fun _ hC=>cg j hC) (h:=?_)
 have H6:Uu3:=H5.ei (f:=(aG bC 4).row) ae 1 i rfl oz
 refine dj 0 22 (D:=tX true H6 2 (xs:=((U.getD i ae).xs)) (k:=fun w6 H7=>?_))
 have H8:Uu2x1:=(H7.eo (f:=(aG bC 4).row) ⟨(U.getD i ae).a,(U.getD i ae).n,(U.getD i ae).c,((U.getD i ae).xs).set j true⟩ 1 2 i rfl rfl rfl oz).re rfl
 have H9:Uu2x1:=H8.lh (((U.getD i ae).xs).set j true) 0 i rfl oz
 refine ⟨trivial,?_⟩
 exact cv 3 [60,59,58,57,56,55,54,37,36,35,34,33,32,31,9,8,7,6,5,4,0,1] (h:=ab 2 (h:=aV (k:=cm 2 (h:=by exact ⟨j+1,U.set i ⟨(U.getD i ae).a,(U.getD i ae).n,(U.getD i ae).c,((U.getD i ae).xs).set j true⟩,rfl,(H9.re rfl),om,(by exact hU.put oz oz (by first|exact fe.yes hU oz oz oz oz hF9 M5|exact fe.no hU hB oz oz oz oz hF9 M5) (fun a b _ _ h9=>fe.step h9)),rfl⟩))))
 refine cp 2 15 (rb.at H5) (D:=fun _ hC=>cg mm hC) (h:=cp 0 16 (rb.at H5) (D:=fun _ hC=>cI hC) (h:=cp 1 18 (show bz bC w5 (.slice ((b.getD mm ae).a) ((b.getD mm ae).n) ((b.getD mm ae).c)) ((b.getD mm ae).xs) from (db.at H5).get ae mm oz) (D:=fun _ hC=>cg j hC) (h:=cp 0 19 (show bz bC w5 (.slice ((b.getD mm ae).a) ((b.getD mm ae).n) ((b.getD mm ae).c)) ((b.getD mm ae).xs) from (db.at H5).get ae mm oz) (D:=fun _ hC=>cI hC) (h:=cp 1 21 (show bz bC w5 (.slice ((U.getD i ae).a) ((U.getD i ae).n) ((U.getD i ae).c)) ((U.getD i ae).xs) from (eK.own (H5.bU 1 rfl)).get ae i oz) (D:=fun _ hC=>cg j hC) (h:=?_)))))
 have bW:Uu3:=H5.ei (f:=(aG bC 4).row) ae 1 i rfl oz
 refine dj 0 22 (D:=tX (((b.getD mm ae).xs).getD j false) bW 2 (xs:=((U.getD i ae).xs)) (k:=fun w7 bP=>?_))
 have ck:Uu2x1:=(bP.eo (f:=(aG bC 4).row) ⟨(U.getD i ae).a,(U.getD i ae).n,(U.getD i ae).c,((U.getD i ae).xs).set j (((b.getD mm ae).xs).getD j false)⟩ 1 2 i rfl rfl rfl oz).re rfl
 have cU:Uu2x1:=ck.lh (((U.getD i ae).xs).set j (((b.getD mm ae).xs).getD j false)) 0 i rfl oz
 refine ⟨trivial,?_⟩
 exact cv 3 [60,59,58,57,56,55,54,37,36,35,34,33,32,31,9,8,7,6,5,4,0,1] (h:=ab 2 (h:=aV (k:=cm 2 (h:=by exact ⟨j+1,U.set i ⟨(U.getD i ae).a,(U.getD i ae).n,(U.getD i ae).c,((U.getD i ae).xs).set j (((b.getD mm ae).xs).getD j false)⟩,rfl,(cU.re rfl),om,(by exact hU.put oz oz (by first|exact fe.yes hU oz oz oz oz hF9 M5|exact fe.no hU hB oz oz oz oz hF9 M5) (fun a b _ _ h9=>fe.step h9)),rfl⟩))))
 exact ab 5 (h:=aV (k:=cm 2 (h:=by exact ⟨mm+1,U,rfl,H4,om,(by exact hU.congr (fun a b _ hb=>fe.Rp hb (by first|omega|exact .inr (fun h9=>xR ((hA.get oz oz).2 h9))))),rfl⟩)))
 exact ab 16 (h:=aV (k:=cm 2 (h:=by exact ⟨mm+1,U,rfl,H4,om,(by exact hU.congr (fun a b _ hb=>fe.Rp hb (by first|omega|exact .inr (fun h9=>xR ((hA.get oz oz).2 h9))))),rfl⟩)))
 exact ab 5 (h:=aV (k:=cm 2 (h:=by exact ⟨i+1,Z,rfl,H3,om,(by exact hZ.congr (fun a b _ hb=>fe.L9 hb oz)),rfl⟩)))
 exact bE 9 (h:=⟨bH,Y,ll,b6,rfl,(H2.se [0,1]),hY.congr (fun a b ha _=>fe.fin ha oz),oz⟩)
theorem mz (aa:aP) (a:List (LR Bool)) (ac:Nat) (an:Nat) (ba:aP) (b:List (LR Bool)) (bc:Nat) (bn:Nat) (n:Nat) (F:Nat→Nat→Prop) (G:Nat→Nat→Prop) (w:World) (ra:bz aK w (.slice aa an ac) a) (rb:bz aK w (.slice ba bn bc) b) (da:(aG bC 4).Rd w a) (db:(aG bC 4).Rd w b) (hn:n≤1000) (hA:lF n F a) (hB:lF n G b):
 Calls Tryz.prog 68 #[.slice aa an ac,.slice ba bn bc] w (aX fun v w'=>∃a2,∃ps:List (LR Bool),∃n2:Nat,∃c2,v= .slice a2 n2 c2∧ax w [] w' [ag aK (.slice a2 n2 c2) 26 ps,ao (aG bC 4).row ps]∧(lF n (Gp F G) ps)∧(n2=n+1)):=by
 obtain rfl:an=a.length:=ra.len
 obtain rfl:bn=b.length:=rb.len
 have hAl:=hA.len
 have hBl:=hB.len
 have Xm:=ra.le
 have Rz:=rb.le
 refine cH Tryz.func68 (h:=fun H0=>ab 9 (h:=kB (k:=ab 6 (h:=aA (c:=oT _ n w oz oz) (k:=?_)))))
 rintro _ w1 ⟨bH,bF,ll,b6,rfl,u1,iH,TE⟩
 have H1:=H0.ns u1
 refine dA 10 [7,6,5,4,0,1] (fun B R L m e v=>∃i,∃Y:List (LR Bool),e=(7,b7 i)::B∧av w L v ([ag aK (.slice bH ll b6) 26 Y]::[ao (aG bC 4).row Y]::R)∧(i≤n+1)∧(lF n (ik F G i i) Y)∧m=n+1-i) (i:=⟨0,bF,rfl,H1,om,(by exact iH.congr (fun a b _ _=>ik.start)),rfl⟩) (h:=?_)
 rintro m1 Γ1 w2 ⟨i,Y,rfl,H2,hi,hY,rfl⟩
 refine aC 8 (fun UQ=>?_) fun UQ=>?_
 refine dA 11 [8,7,6,5,4,0,1] (fun B R L m e v=>∃j,∃U:List (LR Bool),e=(8,b7 j)::B∧av w L v ([ag aK (.slice bH ll b6) 26 U]::[ao (aG bC 4).row U]::R)∧(i≤j∧j≤n+1)∧(lF n (ik F G i j) U)∧m=n+1-j) (i:=⟨i,Y,rfl,H2,om,(by exact hY),rfl⟩) (h:=?_)
 rintro m2 Γ2 w3 ⟨j,U,rfl,H3,hj,hU,rfl⟩
 have hUl:=hU.len
 have hAr:=fun (h9:i≤n)=>hA.row h9
 have hBr:=fun (h9:i≤n)=>hB.row h9
 have hUr:=fun (h9:i≤n)=>hU.row h9
 refine aC 8 (fun UP=>?_) fun UP=>?_
 refine fI 4 H3 (h:=fun w4 H4=>cp 2 2 (H4.rt 0) (D:=fun _ hC=>cg i hC) (h:=cp 0 3 (H4.rt 0) (D:=fun _ hC=>cI hC) (h:=cp 3 7 (ra.at H4) (D:=fun _ hC=>cg i hC) (h:=cp 0 8 (ra.at H4) (D:=fun _ hC=>cI hC) (h:=cp 1 10 (show bz bC w4 (.slice ((a.getD i ae).a) ((a.getD i ae).n) ((a.getD i ae).c)) ((a.getD i ae).xs) from (da.at H4).get ae i oz) (D:=fun _ hC=>cg j hC) (h:=cp 0 11 (show bz bC w4 (.slice ((a.getD i ae).a) ((a.getD i ae).n) ((a.getD i ae).c)) ((a.getD i ae).xs) from (da.at H4).get ae i oz) (D:=fun _ hC=>cI hC) (h:=yA 1 37 (fun M4=>?_) fun M4=>?_)))))))
 refine cp 8 21 (show bz bC w4 (.slice ((U.getD i ae).a) ((U.getD i ae).n) ((U.getD i ae).c)) ((U.getD i ae).xs) from (eK.own (H4.bU 1 rfl)).get ae i oz) (D:=fun _ hC=>cg j hC) (h:=?_)
 have H5:Uu3:=H4.ei (f:=(aG bC 4).row) ae 1 i rfl oz
 refine dj 0 22 (D:=tX true H5 2 (xs:=((U.getD i ae).xs)) (k:=fun w5 H6=>?_))
 have H7:Uu2x1:=(H6.eo (f:=(aG bC 4).row) ⟨(U.getD i ae).a,(U.getD i ae).n,(U.getD i ae).c,((U.getD i ae).xs).set j true⟩ 1 2 i rfl rfl rfl oz).re rfl
 have H8:Uu2x1:=H7.lh (((U.getD i ae).xs).set j true) 0 i rfl oz
 refine ⟨trivial,?_⟩
 exact cv 3 [44,43,42,41,40,39,38,8,7,6,5,4,0,1] (h:=ab 2 (h:=aV (k:=cm 2 (h:=by exact ⟨j+1,U.set i ⟨(U.getD i ae).a,(U.getD i ae).n,(U.getD i ae).c,((U.getD i ae).xs).set j true⟩,rfl,(H8.re rfl),om,(by exact hU.put oz oz (by first|exact ik.yes hA oz oz oz M4|exact ik.no hA hB oz oz oz M4) (fun a b _ _ h9=>ik.step h9)),rfl⟩))))
 refine cp 2 15 (rb.at H4) (D:=fun _ hC=>cg i hC) (h:=cp 0 16 (rb.at H4) (D:=fun _ hC=>cI hC) (h:=cp 1 18 (show bz bC w4 (.slice ((b.getD i ae).a) ((b.getD i ae).n) ((b.getD i ae).c)) ((b.getD i ae).xs) from (db.at H4).get ae i oz) (D:=fun _ hC=>cg j hC) (h:=cp 0 19 (show bz bC w4 (.slice ((b.getD i ae).a) ((b.getD i ae).n) ((b.getD i ae).c)) ((b.getD i ae).xs) from (db.at H4).get ae i oz) (D:=fun _ hC=>cI hC) (h:=cp 1 21 (show bz bC w4 (.slice ((U.getD i ae).a) ((U.getD i ae).n) ((U.getD i ae).c)) ((U.getD i ae).xs) from (eK.own (H4.bU 1 rfl)).get ae i oz) (D:=fun _ hC=>cg j hC) (h:=?_)))))
 have H9:Uu3:=H4.ei (f:=(aG bC 4).row) ae 1 i rfl oz
 refine dj 0 22 (D:=tX (((b.getD i ae).xs).getD j false) H9 2 (xs:=((U.getD i ae).xs)) (k:=fun w6 bW=>?_))
 have bP:Uu2x1:=(bW.eo (f:=(aG bC 4).row) ⟨(U.getD i ae).a,(U.getD i ae).n,(U.getD i ae).c,((U.getD i ae).xs).set j (((b.getD i ae).xs).getD j false)⟩ 1 2 i rfl rfl rfl oz).re rfl
 have ck:Uu2x1:=bP.lh (((U.getD i ae).xs).set j (((b.getD i ae).xs).getD j false)) 0 i rfl oz
 refine ⟨trivial,?_⟩
 exact cv 3 [44,43,42,41,40,39,38,8,7,6,5,4,0,1] (h:=ab 2 (h:=aV (k:=cm 2 (h:=by exact ⟨j+1,U.set i ⟨(U.getD i ae).a,(U.getD i ae).n,(U.getD i ae).c,((U.getD i ae).xs).set j (((b.getD i ae).xs).getD j false)⟩,rfl,(ck.re rfl),om,(by exact hU.put oz oz (by first|exact ik.yes hA oz oz oz M4|exact ik.no hA hB oz oz oz M4) (fun a b _ _ h9=>ik.step h9)),rfl⟩))))
 exact ab 5 (h:=aV (k:=cm 2 (h:=by exact ⟨i+1,U,rfl,H3,om,(by exact hU.congr (fun a b _ hb=>ik.L9 hb oz)),rfl⟩)))
 exact bE 9 (h:=⟨bH,Y,ll,b6,rfl,(H2.se [0,1]),hY.congr (fun a b ha _=>ik.fin ha oz),oz⟩)
theorem xA (la:aP) (l:List Nd) (lc:Nat) (iI:Int) (i:Nat) (text:ByteArray) (T:Tr) (N:Nat) (w:World) (rl:cP aJ w la l lc) (kE:iI=((i:Nat):Int)) (hl:l.length≤100000) (hT:Sub l i T) (bB:fM T) (ht:text.size≤900) (hN:i<N+1) (ih:∀(la:aP) (l:List Nd) (lc:Nat) (iI:Int) (i:Nat) (text:ByteArray) (T:Tr) (w:World) (rl:cP aJ w la l lc) (kE:iI=((i:Nat):Int)) (hl:l.length≤100000) (hT:Sub l i T) (bB:fM T) (ht:text.size≤900) (cF:i<N),Calls Tryz.prog 40 #[aH la l lc,ai iI,.string text] w (aX fun v w'=>∃a2,∃ps:List (LR Bool),∃n2:Nat,∃c2,v= .slice a2 n2 c2∧ax w [] w' [ag aK (.slice a2 n2 c2) 26 ps,ao (aG bC 4).row ps]∧(lF text.size (bf (tN text) T) ps)∧(n2=text.size+1))):
 Calls Tryz.prog 40 #[aH la l lc,ai iI,.string text] w (aX fun v w'=>∃a2,∃ps:List (LR Bool),∃n2:Nat,∃c2,v= .slice a2 n2 c2∧ax w [] w' [ag aK (.slice a2 n2 c2) 26 ps,ao (aG bC 4).row ps]∧(lF text.size (bf (tN text) T) ps)∧(n2=text.size+1)):=by
 subst kE
 have hi:=hT.2.1
 have eI:=rl.le
 refine cH Tryz.func40 (h:=fun H0=>ab 16 (h:=aA (c:=yw la l lc _ i T w (rl.at H0) oz hl hT) (k:=?_)))
 rintro _ w1 ⟨bH,b6,rfl,u1⟩
 have H1:=H0.ns u1
 refine ab 6 (h:=aA (c:=oT _ text.size w1 oz oz) (k:=?_))
 rintro _ w2 ⟨gF,bF,ll,iO,rfl,u2,iH,TE⟩
 have H2:=H1.ns u2
 refine ab 8 (h:=jb i (rl.at H2) (k:=ab 0 (h:=j4 (rl.at H2) (k:=ab 0 (h:=nu (rl.at H2) (k:=aC 9 (fun AT=>?_) fun AT=>?_))))))
 obtain ⟨n5,fJ,bm⟩:=eD hT oz
 have H3:=H2.ps [1,2,0]
 refine dA 6 [10,9,7,6,0,1,2] (fun B R L m e v=>∃j,∃Y:List (LR Bool),e=(10,b7 j)::B∧av w L v ([ag aK (.slice gF ll iO) 26 Y]::[ao (aG bC 4).row Y]::R)∧(j≤text.size)∧(lF text.size (fun a b=>a<j∧b=a+1∧(l.getD i cQ).set.has (bn text a)=true) Y)∧m=text.size-j) (i:=⟨0,bF,rfl,H3,om,(by exact iH.congr (fun a b _ _=>⟨False.elim,fun h9=>absurd h9.1 oz⟩)),rfl⟩) (h:=?_)
 rintro m1 Γ1 w3 ⟨j,Y,rfl,H4,hj,hY,rfl⟩
 have hYl:=hY.len
 obtain ⟨n5,fJ,bm⟩:=eD hT oz
 refine aC 8 (fun UO=>?_) fun UO=>?_
 have hY9:=hY.row (i:=j) oz
 have sL:=cn text j
 refine fI 4 H4 (h:=fun w4 H5=>cp 2 2 (H5.rt 0) (D:=fun _ hC=>cg j hC) (h:=cp 0 3 (H5.rt 0) (D:=fun _ hC=>cI hC) (h:=gk 1 5 (D:=fun _=>aV) (h:=cp 2 8 (rl.at H5) (D:=fun _ hC=>jb i hC) (h:=cp 0 9 (rl.at H5) (D:=fun _ hC=>j4 hC) (h:=?_))))))
 refine aa2 0 10 (rl.at H5) ⟨_,_,_,rfl,rfl,rfl,rfl,rfl,rfl⟩ (fun _ hC=>u0 i cQ (T:=aJ) (us:=[_,_,_,_]) rfl rfl rfl Tryz.underlying87 rfl Sw rfl hC oz rfl ⟨rfl,rfl⟩) (gk 2 13 (D:=fun _=>iV j) (h:=gk 0 14 (D:=fun _=>jd) (h:=dj 0 15 (D:=aA (c:=lQ ((l.getD i cQ).set) (bn text j) w4 oz) (k:=?_)))))
 rintro _ w5 ⟨rfl,u3⟩
 have H6:=H5.call u3
 refine ⟨⟨trivial,trivial,(H6.rt 0),(H6.rt 0),trivial,trivial,trivial⟩,?_⟩
 refine cp 0 16 (show bz bC w5 (.slice ((Y.getD j ae).a) ((Y.getD j ae).n) ((Y.getD j ae).c)) ((Y.getD j ae).xs) from (eK.own (H6.bU 1 rfl)).get ae j oz) (D:=fun _ hC=>cg (j+1) hC) (h:=?_)
 have H7:Uu4:=H6.ei (f:=(aG bC 4).row) ae 1 j rfl oz
 refine dj 0 17 (D:=tX (((l.getD i cQ).set).has (bn text j)) H7 3 (xs:=((Y.getD j ae).xs)) (k:=fun w6 H8=>?_))
 have H9:Uu3x1:=(H8.eo (f:=(aG bC 4).row) ⟨(Y.getD j ae).a,(Y.getD j ae).n,(Y.getD j ae).c,((Y.getD j ae).xs).set (j+1) (((l.getD i cQ).set).has (bn text j))⟩ 1 3 j rfl rfl rfl oz).re rfl
 have bW:Uu3x1:=H9.lh (((Y.getD j ae).xs).set (j+1) (((l.getD i cQ).set).has (bn text j))) 0 j rfl oz
 refine ⟨trivial,?_⟩
 obtain ⟨n5,fJ,bm⟩:=eD hT oz
 exact ab 5 (h:=aV (k:=cm 2 (h:=by exact ⟨j+1,Y.set j ⟨(Y.getD j ae).a,(Y.getD j ae).n,(Y.getD j ae).c,((Y.getD j ae).xs).set (j+1) (((l.getD i cQ).set).has (bn text j))⟩,rfl,(bW.re rfl),om,(by exact hY.put oz oz ⟨fun h9=>⟨by omega,rfl,h9⟩,fun h9=>h9.2.2⟩ (fun a b _ _ h9=>⟨fun h8=>⟨by omega,h8.2⟩,fun h8=>⟨by omega,h8.2⟩⟩)),rfl⟩)))
 exact bE 10 (h:=⟨gF,Y,ll,iO,rfl,(H4.se [0,1]),(by rw [fJ];first|exact hY.congr (fun a b _ _=>by rw [←bm];exact kX (by rw [bm];exact AT) oz)|exact CV.congr (fun a b _ _=>gJ (by rw [bm];exact AS))|exact (iH.put (F':=fun a b=>a=0∧b=0) oz oz (by simp) (fun a b _ _ h9=>⟨False.elim,fun h8=>absurd h8 h9⟩)).congr (fun a b _ _=>gK (by rw [bm];exact wU))|exact (iH.put (F':=fun a b=>a=text.size∧b=text.size) oz oz (by simp) (fun a b _ _ h9=>⟨False.elim,fun h8=>absurd h8 h9⟩)).congr (fun a b _ _=>kY (by rw [bm];exact wT))|exact CY.congr (fun a b _ _=>lb (by rw [bm];exact wS))|exact CW.congr (fun a b _ _=>ox (by rw [bm];omega))|exact hG.congr (fun a b _ hb=>dp (by rw [bm];omega) (by rw [bm,bY];omega) (by rw [bY];exact hb))|exact hP.congr (fun a b _ hb=>fi.trans (dp (by rw [bm];omega) (by rw [bm,bY];omega) (by rw [bY];exact hb)))),oz⟩)
 refine aC 6 (fun AS=>?_) fun AS=>?_
 obtain ⟨n5,fJ,bm⟩:=eD hT oz
 refine ab 2 (h:=aA (c:=yx _ text.size w2 oz oz) (k:=?_))
 rintro _ w7 ⟨s4,abr,abL,wQ,rfl,u5,CV,acT⟩
 have bP:=H2.ns u5
 exact bE 11 (h:=⟨s4,abr,abL,wQ,rfl,(bP.se [3,4]),(by rw [fJ];first|exact hY.congr (fun a b _ _=>by rw [←bm];exact kX (by rw [bm];exact AT) oz)|exact CV.congr (fun a b _ _=>gJ (by rw [bm];exact AS))|exact (iH.put (F':=fun a b=>a=0∧b=0) oz oz (by simp) (fun a b _ _ h9=>⟨False.elim,fun h8=>absurd h8 h9⟩)).congr (fun a b _ _=>gK (by rw [bm];exact wU))|exact (iH.put (F':=fun a b=>a=text.size∧b=text.size) oz oz (by simp) (fun a b _ _ h9=>⟨False.elim,fun h8=>absurd h8 h9⟩)).congr (fun a b _ _=>kY (by rw [bm];exact wT))|exact CY.congr (fun a b _ _=>lb (by rw [bm];exact wS))|exact CW.congr (fun a b _ _=>ox (by rw [bm];omega))|exact hG.congr (fun a b _ hb=>dp (by rw [bm];omega) (by rw [bm,bY];omega) (by rw [bY];exact hb))|exact hP.congr (fun a b _ hb=>fi.trans (dp (by rw [bm];omega) (by rw [bm,bY];omega) (by rw [bY];exact hb)))),oz⟩)
 refine aC 6 (fun wU=>?_) fun wU=>?_
 obtain ⟨n5,fJ,bm⟩:=eD hT oz
 have hY9:=iH.row (i:=0) oz
 have hY8:=iH.len
 refine ab 2 (h:=cg 0 (H2.rt 1) (k:=ab 0 (h:=cI (H2.rt 1) (k:=ab 0 (h:=cg 0 (show bz bC w2 (.slice ((bF.getD 0 ae).a) ((bF.getD 0 ae).n) ((bF.getD 0 ae).c)) ((bF.getD 0 ae).xs) from (eK.own (H2.bU 2 rfl)).get ae 0 oz) (k:=?_))))))
 have ck:Uu4:=H2.ei (f:=(aG bC 4).row) ae 2 0 rfl oz
 refine aY 0 (h:=tX true ck 3 (xs:=((bF.getD 0 ae).xs)) (k:=fun w8 cU=>?_))
 have cN:Uu3x1:=(cU.eo (f:=(aG bC 4).row) ⟨(bF.getD 0 ae).a,(bF.getD 0 ae).n,(bF.getD 0 ae).c,((bF.getD 0 ae).xs).set 0 true⟩ 2 3 0 rfl rfl rfl oz).re rfl
 have dt:Uu3x1:=cN.lh (((bF.getD 0 ae).xs).set 0 true) 1 0 rfl oz
 exact bE 10 (h:=⟨gF,bF.set 0 ⟨(bF.getD 0 ae).a,(bF.getD 0 ae).n,(bF.getD 0 ae).c,((bF.getD 0 ae).xs).set 0 true⟩,ll,iO,rfl,(dt.se [1,2]),(by rw [fJ];first|exact hY.congr (fun a b _ _=>by rw [←bm];exact kX (by rw [bm];exact AT) oz)|exact CV.congr (fun a b _ _=>gJ (by rw [bm];exact AS))|exact (iH.put (F':=fun a b=>a=0∧b=0) oz oz (by simp) (fun a b _ _ h9=>⟨False.elim,fun h8=>absurd h8 h9⟩)).congr (fun a b _ _=>gK (by rw [bm];exact wU))|exact (iH.put (F':=fun a b=>a=text.size∧b=text.size) oz oz (by simp) (fun a b _ _ h9=>⟨False.elim,fun h8=>absurd h8 h9⟩)).congr (fun a b _ _=>kY (by rw [bm];exact wT))|exact CY.congr (fun a b _ _=>lb (by rw [bm];exact wS))|exact CW.congr (fun a b _ _=>ox (by rw [bm];omega))|exact hG.congr (fun a b _ hb=>dp (by rw [bm];omega) (by rw [bm,bY];omega) (by rw [bY];exact hb))|exact hP.congr (fun a b _ hb=>fi.trans (dp (by rw [bm];omega) (by rw [bm,bY];omega) (by rw [bY];exact hb)))),oz⟩)
 refine aC 6 (fun wT=>?_) fun wT=>?_
 obtain ⟨n5,fJ,bm⟩:=eD hT oz
 have hY9:=iH.row (i:=text.size) oz
 have hY8:=iH.len
 refine ab 3 (h:=cg text.size (H2.rt 1) (k:=ab 0 (h:=cI (H2.rt 1) (k:=ab 1 (h:=cg text.size (show bz bC w2 (.slice ((bF.getD text.size ae).a) ((bF.getD text.size ae).n) ((bF.getD text.size ae).c)) ((bF.getD text.size ae).xs) from (eK.own (H2.bU 2 rfl)).get ae text.size oz) (k:=?_))))))
 have dw:Uu4:=H2.ei (f:=(aG bC 4).row) ae 2 text.size rfl oz
 refine aY 0 (h:=tX true dw 3 (xs:=((bF.getD text.size ae).xs)) (k:=fun w9 fH=>?_))
 have il:Uu3x1:=(fH.eo (f:=(aG bC 4).row) ⟨(bF.getD text.size ae).a,(bF.getD text.size ae).n,(bF.getD text.size ae).c,((bF.getD text.size ae).xs).set text.size true⟩ 2 3 text.size rfl rfl rfl oz).re rfl
 have jh:Uu3x1:=il.lh (((bF.getD text.size ae).xs).set text.size true) 1 text.size rfl oz
 exact cv 3 [9,6] (h:=bE 7 (h:=⟨gF,bF.set text.size ⟨(bF.getD text.size ae).a,(bF.getD text.size ae).n,(bF.getD text.size ae).c,((bF.getD text.size ae).xs).set text.size true⟩,ll,iO,rfl,(jh.se [1,2]),(by rw [fJ];first|exact hY.congr (fun a b _ _=>by rw [←bm];exact kX (by rw [bm];exact AT) oz)|exact CV.congr (fun a b _ _=>gJ (by rw [bm];exact AS))|exact (iH.put (F':=fun a b=>a=0∧b=0) oz oz (by simp) (fun a b _ _ h9=>⟨False.elim,fun h8=>absurd h8 h9⟩)).congr (fun a b _ _=>gK (by rw [bm];exact wU))|exact (iH.put (F':=fun a b=>a=text.size∧b=text.size) oz oz (by simp) (fun a b _ _ h9=>⟨False.elim,fun h8=>absurd h8 h9⟩)).congr (fun a b _ _=>kY (by rw [bm];exact wT))|exact CY.congr (fun a b _ _=>lb (by rw [bm];exact wS))|exact CW.congr (fun a b _ _=>ox (by rw [bm];omega))|exact hG.congr (fun a b _ hb=>dp (by rw [bm];omega) (by rw [bm,bY];omega) (by rw [bY];exact hb))|exact hP.congr (fun a b _ hb=>fi.trans (dp (by rw [bm];omega) (by rw [bm,bY];omega) (by rw [bY];exact hb)))),oz⟩))
 refine aC 6 (fun wS=>?_) fun wS=>?_
 obtain ⟨n5,a5,b5,fJ,bm,Aq,MM,CT,OC,ML,tF,sN⟩:=lP hT oz
 refine fI 0 H2 (h:=fun iy eH=>cp 2 2 (eH.rt 0) (D:=fun _ hC=>cg 0 hC) (h:=cp 0 3 (eH.rt 0) (D:=fun _ hC=>cI hC) (h:=cp 3 8 (eH.rt 0) (D:=fun _ hC=>cg 1 hC) (h:=cp 0 9 (eH.rt 0) (D:=fun _ hC=>cI hC) (h:=dj 1 5 (D:=aA (c:=ih la l lc _ (((bQ T i).getD 0 0).toNat) _ _ iy (rl.at eH) oz hl (by first|exact tF|exact sN) (by subst fJ;first|exact bB.kO|exact bB.kN|exact bB.rep) ht oz) (k:=?_)))))))
 rintro _ gS ⟨Kn,abq,abK,UL,rfl,u8,lv,TF⟩
 have lf:=eH.ns u8
 refine ⟨⟨trivial,(lf.rt 0),(lf.rt 0),trivial,trivial,trivial⟩,?_⟩
 refine dj 0 11 (D:=aA (c:=ih la l lc _ (((bQ T i).getD 1 0).toNat) _ _ gS (rl.at lf) oz hl (by first|exact tF|exact sN) (by subst fJ;first|exact bB.kO|exact bB.kN|exact bB.rep) ht oz) (k:=?_))
 rintro _ jz ⟨aeP,abp,abJ,ajR,rfl,u9,PZ,aiD⟩
 have ji:=lf.ns u9
 refine ⟨trivial,?_⟩
 refine dj 0 12 (D:=aA (c:=jF Kn abq _ abK aeP abp _ abJ text.size _ _ jz (ji.rt 3) (ji.rt 5) (eK.own (ji.bU 4 rfl)) (eK.own (ji.bU 6 rfl)) oz (by first|exact Av|exact hP|exact lv) (by first|exact PY|exact PZ)) (k:=?_))
 rintro _ kK ⟨aeO,abo,abI,aec,rfl,uU,CY,aiw⟩
 have oI:=ji.ns uU
 refine ⟨trivial,?_⟩
 exact cv 4 [9,6] (h:=bE 7 (h:=⟨aeO,abo,abI,aec,rfl,(oI.se [7,8]),(by rw [fJ];first|exact hY.congr (fun a b _ _=>by rw [←bm];exact kX (by rw [bm];exact AT) oz)|exact CV.congr (fun a b _ _=>gJ (by rw [bm];exact AS))|exact (iH.put (F':=fun a b=>a=0∧b=0) oz oz (by simp) (fun a b _ _ h9=>⟨False.elim,fun h8=>absurd h8 h9⟩)).congr (fun a b _ _=>gK (by rw [bm];exact wU))|exact (iH.put (F':=fun a b=>a=text.size∧b=text.size) oz oz (by simp) (fun a b _ _ h9=>⟨False.elim,fun h8=>absurd h8 h9⟩)).congr (fun a b _ _=>kY (by rw [bm];exact wT))|exact CY.congr (fun a b _ _=>lb (by rw [bm];exact wS))|exact CW.congr (fun a b _ _=>ox (by rw [bm];omega))|exact hG.congr (fun a b _ hb=>dp (by rw [bm];omega) (by rw [bm,bY];omega) (by rw [bY];exact hb))|exact hP.congr (fun a b _ hb=>fi.trans (dp (by rw [bm];omega) (by rw [bm,bY];omega) (by rw [bY];exact hb)))),oz⟩))
 refine cv 6 [85,27,9,8,7,6,0,1,2] (h:=aC 0 (fun NW=>?_) fun NW=>?_)
 obtain ⟨n5,a5,b5,fJ,bm,Aq,MM,CT,OC,ML,tF,sN⟩:=lP hT oz
 refine fI 0 H2 (h:=fun nH nF=>cp 2 2 (nF.rt 0) (D:=fun _ hC=>cg 0 hC) (h:=cp 0 3 (nF.rt 0) (D:=fun _ hC=>cI hC) (h:=cp 3 8 (nF.rt 0) (D:=fun _ hC=>cg 1 hC) (h:=cp 0 9 (nF.rt 0) (D:=fun _ hC=>cI hC) (h:=dj 1 5 (D:=aA (c:=ih la l lc _ (((bQ T i).getD 0 0).toNat) _ _ nH (rl.at nF) oz hl (by first|exact tF|exact sN) (by subst fJ;first|exact bB.kO|exact bB.kN|exact bB.rep) ht oz) (k:=?_)))))))
 rintro _ tU ⟨aeN,abn,abH,ajQ,rfl,xr,TI,aiC⟩
 have nE:=nF.ns xr
 refine ⟨⟨trivial,(nE.rt 0),(nE.rt 0),trivial,trivial,trivial⟩,?_⟩
 refine dj 0 11 (D:=aA (c:=ih la l lc _ (((bQ T i).getD 1 0).toNat) _ _ tU (rl.at nE) oz hl (by first|exact tF|exact sN) (by subst fJ;first|exact bB.kO|exact bB.kN|exact bB.rep) ht oz) (k:=?_))
 rintro _ ur ⟨aeM,abm,abG,ajP,rfl,tV,TH,aiB⟩
 have pM:=nE.ns tV
 refine ⟨trivial,?_⟩
 refine dj 0 12 (D:=aA (c:=mz aeN abn _ abH aeM abm _ abG text.size _ _ ur (pM.rt 3) (pM.rt 5) (eK.own (pM.bU 4 rfl)) (eK.own (pM.bU 6 rfl)) oz (by first|exact hG|exact hP|exact TI) (by first|exact MV|exact MW|exact TH)) (k:=?_))
 rintro _ xq ⟨aeL,abl,abF,aeb,rfl,zu,CW,aiv⟩
 have pL:=pM.ns zu
 refine ⟨trivial,?_⟩
 exact bE 11 (h:=⟨aeL,abl,abF,aeb,rfl,(pL.se [7,8]),(by rw [fJ];first|exact hY.congr (fun a b _ _=>by rw [←bm];exact kX (by rw [bm];exact AT) oz)|exact CV.congr (fun a b _ _=>gJ (by rw [bm];exact AS))|exact (iH.put (F':=fun a b=>a=0∧b=0) oz oz (by simp) (fun a b _ _ h9=>⟨False.elim,fun h8=>absurd h8 h9⟩)).congr (fun a b _ _=>gK (by rw [bm];exact wU))|exact (iH.put (F':=fun a b=>a=text.size∧b=text.size) oz oz (by simp) (fun a b _ _ h9=>⟨False.elim,fun h8=>absurd h8 h9⟩)).congr (fun a b _ _=>kY (by rw [bm];exact wT))|exact CY.congr (fun a b _ _=>lb (by rw [bm];exact wS))|exact CW.congr (fun a b _ _=>ox (by rw [bm];omega))|exact hG.congr (fun a b _ hb=>dp (by rw [bm];omega) (by rw [bm,bY];omega) (by rw [bY];exact hb))|exact hP.congr (fun a b _ hb=>fi.trans (dp (by rw [bm];omega) (by rw [bm,bY];omega) (by rw [bY];exact hb)))),oz⟩)
 refine aC 6 (fun wR=>?_) fun wR=>?_
 obtain ⟨n5,a5,fJ,bm,Aq,MM,CT,tF⟩:=vQ hT oz
 have D3:=cW.rep (n:=n5) (by subst fJ;exact bB.root) (by rw [bm];omega)
 rw [bm] at D3
 refine ab 4 (h:=cg 0 (H2.rt 0) (k:=ab 0 (h:=cI (H2.rt 0) (k:=ab 1 (h:=aA (c:=ih la l lc _ (((bQ T i).getD 0 0).toNat) _ _ w2 (rl.at H2) oz hl (by first|exact tF|exact sN) (by subst fJ;first|exact bB.kO|exact bB.kN|exact bB.rep) ht oz) (k:=?_))))))
 rintro _ zn ⟨xe,EL,E9,Ib,rfl,OO,PY,aiA⟩
 have rW:=H2.ns OO
 refine ab 6 (h:=aA (c:=yx _ text.size zn oz oz) (k:=?_))
 rintro _ zm ⟨ZF,WY,Xf,Zj,rfl,ON,acY,aiu⟩
 have tS:=rW.ns ON
 have pK:=tS.ps [5,6,0,1,2,3,4]
 refine dA 10 [13,12,11,7,6,0,1] (fun B R L m e v=>∃jj pa,∃pp:List (LR Bool),∃pc,∃pn:Nat,e=(13,b7 jj)::(12,.slice pa pn pc)::B∧av w L v ([ag aK (.slice pa pn pc) 26 pp]::[ao (aG bC 4).row pp]::R)∧((jj:Int)≤(l.getD i cQ).lo)∧(lF text.size (bK (bf (tN text) a5) jj) pp)∧(pn=text.size+1)∧m=((l.getD i cQ).lo-jj).toNat) (i:=⟨0,ZF,WY,Zj,Xf,rfl,pK,om,(by exact acY.congr (fun a b _ _=>Iff.rfl)),om,rfl⟩) (h:=?_)
 rintro m2 Γ2 Ix ⟨jj,pa,pp,pc,pn,rfl,mf,hjj,hP,PL,rfl⟩
 refine ab 6 (h:=jb i (rl.at mf) (k:=ab 0 (h:=j4 (rl.at mf) (k:=ab 0 (h:=nu (rl.at mf) (k:=aC 3 (fun oB=>?_) fun oB=>?_))))))
 refine ab 7 (h:=aA (c:=jF pa pp pc pn xe EL _ E9 text.size _ _ Ix (mf.rt 0) (mf.rt 5) (eK.own (mf.bU 1 rfl)) (eK.own (mf.bU 6 rfl)) oz (by first|exact Av|exact hP|exact lv) (by first|exact PY|exact PZ)) (k:=?_))
 rintro _ Q9 ⟨ZE,WX,Xe,Zi,rfl,u16,ac4,ait⟩
 have rV:Uu9:=(mf.iZ u16).re rfl
 exact ab 6 (h:=aV (k:=cm 2 (h:=by exact ⟨jj+1,ZE,WX,Zi,Xe,rfl,(rV.pm [7,8,2,3,4,5,6] rfl rfl),om,(by exact ac4.congr (fun a b _ _=>kv (fun i j h=>bf.le h))),om,rfl⟩)))
 refine fI 3 mf (h:=fun Oo pY=>cp 2 2 (rl.at pY) (D:=fun _ hC=>jb i hC) (h:=cp 0 3 (rl.at pY) (D:=fun _ hC=>j4 hC) (h:=cp 0 4 (rl.at pY) (D:=fun _ hC=>nu hC) (h:=cp 2 7 (rl.at pY) (D:=fun _ hC=>jb i hC) (h:=cp 0 8 (rl.at pY) (D:=fun _ hC=>j4 hC) (h:=cp 0 9 (rl.at pY) (D:=fun _ hC=>nu hC) (h:=gk 0 10 (D:=fun _=>kB) (h:=o9 3 [12,11,6] 0 pY (fun B R L e v=>∃mr,e=(14,ai mr)::B∧av w L v (R)∧(((l.getD i cQ).hi= -1∧mr=(text.size:Int))∨(¬(l.getD i cQ).hi= -1∧mr=(l.getD i cQ).hi-(l.getD i cQ).lo))) ?_ ?_))))))))
 refine ab 4 (h:=jb i (rl.at pY) (k:=ab 0 (h:=j4 (rl.at pY) (k:=ab 0 (h:=nu (rl.at pY) (k:=cv 3 [138,14,12,11,7,6] (h:=aC 0 (fun aej=>?_) fun aej=>?_)))))))
 exact cA 4 (h:=by exact ⟨((text.size:Nat):Int),rfl,pY,om⟩)
 exact cA 1 (h:=by exact ⟨((l.getD i cQ).hi)-((l.getD i cQ).lo),rfl,pY,om⟩)
 rintro Γ3 Om ⟨mr,rfl,xV,hmr⟩
 refine cv 12 [15,9,14,12,11,6] (h:=abR 0 (fun m e v=>(m=mr.toNat+1∧e=[(15,ai 0),(9,.slice pa pn pc),(14,ai mr),(12,.slice pa pn pc),(11,.slice xe E9 Ib),(6,.slice none 0 0)]∧av w [] v [[ag aK (.slice pa pn pc) 26 pp],[ao (aG bC 4).row pp],[cE (aw .i64) 3 bH (bQ T i) b6],[ag aK (.slice gF ll iO) 26 bF],[ao (aG bC 4).row bF],[ag aK (.slice xe E9 Ib) 26 EL],[ao (aG bC 4).row EL]])∨(∃k pa,∃pp:List (LR Bool),∃pc,∃pn:Nat,∃ga,∃gg:List (LR Bool),∃gc,∃gn:Nat,e=[(15,b7 k),(9,.slice ga gn gc),(14,ai mr),(12,.slice pa pn pc),(11,.slice xe E9 Ib),(6,.slice none 0 0)]∧av w [] v [[ag aK (.slice pa pn pc) 26 pp],[ao (aG bC 4).row pp],[cE (aw .i64) 3 bH (bQ T i) b6],[ag aK (.slice gF ll iO) 26 bF],[ao (aG bC 4).row bF],[ag aK (.slice xe E9 Ib) 26 EL],[ao (aG bC 4).row EL],[ag aK (.slice ga gn gc) 26 gg],[ao (aG bC 4).row gg]]∧((k:Int)≤mr)∧(lF text.size (bK (bf (tN text) a5) (jj+k)) pp)∧(lF text.size (tR (bf (tN text) a5) jj k) gg)∧(pn=text.size+1)∧(gn=text.size+1)∧m=(mr-k).toNat)) (mr.toNat+1) (i:=.inl ⟨rfl,rfl,xV⟩) (h:=?_))
 rintro m3 Γ4 Ol (⟨rfl,rfl,qF⟩|⟨k,abv,abt,ag2,abu,ga,gg,gc,gn,rfl,qF,hk,Av,hG,ahL,acT,rfl⟩)
 refine aC 8 (fun NV=>?_) fun NV=>?_
 refine ab 8 (h:=aA (c:=jF pa pp pc pn xe EL _ E9 text.size _ _ Ol (qF.rt 0) (qF.rt 5) (eK.own (qF.bU 1 rfl)) (eK.own (qF.bU 6 rfl)) oz (by first|exact Av|exact hP|exact lv) (by first|exact PY|exact PZ)) (k:=?_))
 rintro _ Q8 ⟨R6,Rk,Rr,Zh,rfl,Iz,MW,ais⟩
 have A5:Uu9:=(qF.iZ Iz).re rfl
 refine ab 6 (h:=aA (c:=mz pa pp pc pn R6 Rk _ Rr text.size _ _ Q8 (A5.rt 0) (A5.rt 7) (eK.own (A5.bU 1 rfl)) (eK.own (A5.bU 8 rfl)) oz (by first|exact hG|exact hP|exact TI) (by first|exact MV|exact MW|exact TH)) (k:=?_))
 rintro _ V9 ⟨ZD,WW,Xd,Zg,rfl,Sp,X4,air⟩
 have Bh:=A5.ns Sp
 exact ab 6 (h:=aV (k:=cm 2 (h:=by exact .inr ⟨1,R6,Rk,Zh,Rr,ZD,WW,Zg,Xd,rfl,(Bh.pm [7,8,2,3,4,5,6,9,10] rfl rfl),om,(by first|exact MV.congr (fun a b _ _=>kv (fun i j h=>bf.le h))|exact MW.congr (fun a b _ _=>kv (fun i j h=>bf.le h))),(by first|exact X3.congr (fun a b _ _=>sA (fun i j h=>bf.le h))|exact X4.congr (fun a b _ _=>vK (fun i j h=>bf.le h))),om,om,rfl⟩)))
 exact bE 10 (h:=⟨pa,pp,pn,pc,rfl,(qF.se [0,1]),(by rw [fJ];first|exact hY.congr (fun a b _ _=>by rw [←bm];exact kX (by rw [bm];exact AT) oz)|exact CV.congr (fun a b _ _=>gJ (by rw [bm];exact AS))|exact (iH.put (F':=fun a b=>a=0∧b=0) oz oz (by simp) (fun a b _ _ h9=>⟨False.elim,fun h8=>absurd h8 h9⟩)).congr (fun a b _ _=>gK (by rw [bm];exact wU))|exact (iH.put (F':=fun a b=>a=text.size∧b=text.size) oz oz (by simp) (fun a b _ _ h9=>⟨False.elim,fun h8=>absurd h8 h9⟩)).congr (fun a b _ _=>kY (by rw [bm];exact wT))|exact CY.congr (fun a b _ _=>lb (by rw [bm];exact wS))|exact CW.congr (fun a b _ _=>ox (by rw [bm];omega))|exact hG.congr (fun a b _ hb=>dp (by rw [bm];omega) (by rw [bm,bY];omega) (by rw [bY];exact hb))|exact hP.congr (fun a b _ hb=>fi.trans (dp (by rw [bm];omega) (by rw [bm,bY];omega) (by rw [bY];exact hb)))),oz⟩)
 refine aC 8 (fun NV=>?_) fun NV=>?_
 refine ab 8 (h:=aA (c:=jF abv abt _ abu xe EL _ E9 text.size _ _ Ol (qF.rt 0) (qF.rt 5) (eK.own (qF.bU 1 rfl)) (eK.own (qF.bU 6 rfl)) oz (by first|exact Av|exact hP|exact lv) (by first|exact PY|exact PZ)) (k:=?_))
 rintro _ Sn ⟨R5,Rj,Rq,Zf,rfl,Wc,MV,aiq⟩
 have xg:Uu11:=(qF.iZ Wc).re rfl
 refine ab 6 (h:=aA (c:=mz ga gg gc gn R5 Rj _ Rq text.size _ _ Sn (xg.rt 7) (xg.rt 9) (eK.own (xg.bU 8 rfl)) (eK.own (xg.bU 10 rfl)) oz (by first|exact hG|exact hP|exact TI) (by first|exact MV|exact MW|exact TH)) (k:=?_))
 rintro _ Sm ⟨ZC,WV,Xc,Ze,rfl,Wb,X3,af0⟩
 have Iq:=xg.ns Wb
 exact ab 6 (h:=aV (k:=cm 2 (h:=by exact .inr ⟨k+1,R5,Rj,Zf,Rq,ZC,WV,Ze,Xc,rfl,(Iq.pm [9,10,2,3,4,5,6,11,12] rfl rfl),om,(by first|exact MV.congr (fun a b _ _=>kv (fun i j h=>bf.le h))|exact MW.congr (fun a b _ _=>kv (fun i j h=>bf.le h))),(by first|exact X3.congr (fun a b _ _=>sA (fun i j h=>bf.le h))|exact X4.congr (fun a b _ _=>vK (fun i j h=>bf.le h))),om,om,rfl⟩)))
 exact bE 10 (h:=⟨ga,gg,gn,gc,rfl,(qF.se [7,8]),(by rw [fJ];first|exact hY.congr (fun a b _ _=>by rw [←bm];exact kX (by rw [bm];exact AT) oz)|exact CV.congr (fun a b _ _=>gJ (by rw [bm];exact AS))|exact (iH.put (F':=fun a b=>a=0∧b=0) oz oz (by simp) (fun a b _ _ h9=>⟨False.elim,fun h8=>absurd h8 h9⟩)).congr (fun a b _ _=>gK (by rw [bm];exact wU))|exact (iH.put (F':=fun a b=>a=text.size∧b=text.size) oz oz (by simp) (fun a b _ _ h9=>⟨False.elim,fun h8=>absurd h8 h9⟩)).congr (fun a b _ _=>kY (by rw [bm];exact wT))|exact CY.congr (fun a b _ _=>lb (by rw [bm];exact wS))|exact CW.congr (fun a b _ _=>ox (by rw [bm];omega))|exact hG.congr (fun a b _ hb=>dp (by rw [bm];omega) (by rw [bm,bY];omega) (by rw [bY];exact hb))|exact hP.congr (fun a b _ hb=>fi.trans (dp (by rw [bm];omega) (by rw [bm,bY];omega) (by rw [bY];exact hb)))),oz⟩)
 exfalso;have h9:=OM hT.1;rw [←hT.root.1] at h9;omega
theorem zG (N:Nat):∀(la:aP) (l:List Nd) (lc:Nat) (iI:Int) (i:Nat) (text:ByteArray) (T:Tr) (w:World) (rl:cP aJ w la l lc) (kE:iI=((i:Nat):Int)) (hl:l.length≤100000) (hT:Sub l i T) (bB:fM T) (ht:text.size≤900) (cF:i<N),Calls Tryz.prog 40 #[aH la l lc,ai iI,.string text] w (aX fun v w'=>∃a2,∃ps:List (LR Bool),∃n2:Nat,∃c2,v= .slice a2 n2 c2∧ax w [] w' [ag aK (.slice a2 n2 c2) 26 ps,ao (aG bC 4).row ps]∧(lF text.size (bf (tN text) T) ps)∧(n2=text.size+1)):=by
 induction N with
 | zero=>intro la l lc iI i text T w rl kE hl hT bB ht cF;omega
 | succ N ih=>intro la l lc iI i text T w rl kE hl hT bB ht cF;exact xA la l lc iI i text T N w rl kE hl hT bB ht cF ih
theorem Lw (la:aP) (l:List Nd) (lc:Nat) (iI:Int) (i:Nat) (text:ByteArray) (T:Tr) (w:World) (rl:cP aJ w la l lc) (kE:iI=((i:Nat):Int)) (hl:l.length≤100000) (hT:Sub l i T) (bB:fM T) (ht:text.size≤900):
 Calls Tryz.prog 40 #[aH la l lc,ai iI,.string text] w (aX fun v w'=>∃a2,∃ps:List (LR Bool),∃n2:Nat,∃c2,v= .slice a2 n2 c2∧ax w [] w' [ag aK (.slice a2 n2 c2) 26 ps,ao (aG bC 4).row ps]∧(lF text.size (bf (tN text) T) ps)∧(n2=text.size+1)):=zG (i+1) la l lc iI i text T w rl kE hl hT bB ht oz
theorem LF (la:aP) (l:List Nd) (lc:Nat) (text:ByteArray) (T:Tr) (w:World) (rl:cP aJ w la l lc) (hl:0<l.length∧l.length≤100000) (hT:Sub l (l.length-1) T) (bB:fM T) (ht:text.size≤900):
 Calls Tryz.prog 14 #[aH la l lc,.string text] w (aX fun v w'=>∃a2,∃ps:List (LR Bool),∃n2:Nat,∃c2,v= .slice a2 n2 c2∧ax w [] w' [ag aK (.slice a2 n2 c2) 26 ps,ao (aG bC 4).row ps]∧(lF text.size (bf (tN text) T) ps)∧(n2=text.size+1)):=by
 have eI:=rl.le
 refine cH Tryz.func14 (h:=fun H0=>ab 10 (h:=kB (k:=ab 1 (h:=aA (c:=Lw la l lc _ (l.length-1) _ T w (rl.at H0) oz oz hT bB ht) (k:=?_)))))
 rintro _ w1 ⟨bH,bF,ll,b6,rfl,u1,lv,TF⟩
 have H1:=H0.ns u1
 exact bE 4 (h:=⟨bH,bF,ll,b6,rfl,(H1.se [0,1]),lv,TF⟩)
theorem Ew (s:ByteArray) (w:World) (hs:s.size≤900):
 Calls Tryz.prog 17 #[.string s] w (aX fun v w'=>v= .string (I5 s)∧ax w [] w' []):=by
 refine cH Tryz.func17 (h:=fun H0=>dA 17 [4,3,2,0] (fun B R L m e v=>∃i,∃o:ByteArray,e=(4,b7 i)::(3,.string o)::B∧av w L v (R)∧(i≤s.size)∧(o=tZ s i)∧m=s.size-i) (i:=⟨0,⟨#[]⟩,rfl,H0,om,(by exact I6 s),rfl⟩) (h:=?_))
 rintro m1 Γ1 w1 ⟨i,o,rfl,H1,hi,ho,rfl⟩
 have Fx:o.size=i:=by rw [ho];exact yy s oz
 refine aC 9 (fun UK=>?_) fun UK=>?_
 refine ab 8 (h:=aV (k:=?_))
 refine aN 0 rfl (lZ ((i:Nat):Int) (((i:Nat):Int)+1) i (i+1) Tryz.underlying9 rfl rfl rfl (.inr ⟨_,rfl⟩) (.inr ⟨_,rfl⟩) oz oz ⟨by omega,by omega,by omega⟩ ?_)
 exact aN 1 rfl (NC rfl rfl (by have h9:=Fx;rw [ByteArray.size_extract];omega) (ab 6 (h:=aV (k:=cm 2 (h:=by exact ⟨i+1,(s.extract i (i+1))++o,rfl,H1,om,(by rw [ho];exact I7 oz),rfl⟩)))))
 exact bE 9 (h:=⟨(by rw [ho,show i=s.size by omega,BT]),H1.af⟩)
theorem nR (text:ByteArray) (iI:Int) (i:Nat) (jI:Int) (j:Nat) (w:World) (kE:iI=((i:Nat):Int)) (e_j:jI=((j:Nat):Int)) (cD:i≤j∧j≤text.size) (ht:text.size≤900):
 Calls Tryz.prog 16 #[.string text,ai iI,ai jI] w (aX fun v w'=>∃a2,∃c2:Nat,v=aH a2 (ft (tN text) i j) c2∧ax w [] w' [cE (aw .i64) 3 a2 (ft (tN text) i j) c2]):=by
 subst kE
 subst e_j
 have VA:=bY text
 refine cH Tryz.func16 (h:=fun H0=>aC 18 (fun UF=>?_) fun UF=>?_)
 refine ab 2 (h:=dL (aw .i64) [258] H0 (k:=fun w1 H1=>bE 4 (h:=?_)))
 have e9:ft (tN text) i j=[258]:=Iu oz
 rw [e9]
 exact ⟨(some ⟨w.heap.size,0,none⟩),[258].length,rfl,(by have hh:=H1.kM 0;exact hh)⟩
 have H2:=H0.nr (aw .i64) 3
 refine o9 2 [6,0,1,2] 1 H2 (fun B R L e v=>∃o0:List Int,∃za zc,e=(7,aH za o0 zc)::B∧av w L v ([cE (aw .i64) 3 za o0 zc]::R)∧(o0=if i=0 then [256] else [])) ?_ ?_
 refine aC 6 (fun c78=>?_) fun c78=>?_
 refine ab 2 (h:=dL (aw .i64) [256] H2 (k:=fun w2 H3=>ab 0 (h:=kJ H3 0 (H3.rt 1) (hb:=(by simp)) (kW:=(by simp)) (k:=fun a1 c1 w3 Gk=>?_))))
 have H4:=(Gk.drop 1).no
 exact cA 2 (h:=by exact ⟨([]:List Int)++[256],a1,c1,rfl,(H4.re rfl),(by first|(rw [if_pos oz];rfl)|(rw [if_neg oz]))⟩)
 exact cA 1 (h:=by exact ⟨([]:List Int),none,0,rfl,H2,(by first|(rw [if_pos oz];rfl)|(rw [if_neg oz]))⟩)
 rintro Γ1 w4 ⟨o0,za,zc,rfl,H5,ho0⟩
 refine dA 8 [8,7,6,0,2] (fun B R L m e v=>∃k,∃o:List Int,∃oa oc,e=(8,b7 k)::(7,aH oa o oc)::B∧av w L v ([cE (aw .i64) 3 oa o oc]::R)∧(i≤k∧k≤j)∧(o=(if i=0 then [256] else [])++DB (tN text) i k)∧m=j-k) (i:=⟨i,o0,za,zc,rfl,H5,om,(by rw [DA,List.append_nil];exact ho0),rfl⟩) (h:=?_)
 rintro m1 Γ2 w5 ⟨k,o,oa,oc,rfl,H6,hk,ho,rfl⟩
 have Fx:o.length≤(tN text).length+1:=by rw [ho];exact KO
 have sL:=cn text k
 refine aC 8 (fun Kc=>?_) fun Kc=>?_
 refine ab 8 (h:=iV k (k:=ab 0 (h:=jd (k:=ab 0 (h:=dL (aw .i64) [((bn text k:Nat):Int)] H6 (k:=fun w6 H7=>ab 0 (h:=kJ H7 0 (H7.rt 1) (hb:=eR) (kW:=eR) (k:=fun a2 c2 w7 ZL=>?_))))))))
 have H8:=(ZL.drop 1).no
 exact ab 6 (h:=aV (k:=cm 2 (h:=by exact ⟨k+1,o++[((bn text k:Nat):Int)],a2,c2,rfl,(H8.re rfl),om,(by exact It ho oz oz),rfl⟩)))
 refine aC 11 (fun UD=>?_) fun UD=>?_
 refine ab 2 (h:=dL (aw .i64) [257] H6 (k:=fun w8 H9=>ab 0 (h:=kJ H9 0 (H9.rt 1) (hb:=eR) (kW:=eR) (k:=fun a3 c3 w9 Vp=>?_))))
 have bW:=(Vp.drop 1).no
 refine bE 10 (h:=?_)
 have e9:ft (tN text) i j=o++(if j=(tN text).length then [257] else []):=by rw [x6 oz,ho,show k=j by omega]
 first|(rw [if_pos oz] at e9;rw [e9])|(rw [if_neg oz,List.append_nil] at e9;rw [e9])
 exact ⟨a3,c3,rfl,(by have hh:=bW.kM 0;exact hh)⟩
 refine bE 9 (h:=?_)
 have e9:ft (tN text) i j=o++(if j=(tN text).length then [257] else []):=by rw [x6 oz,ho,show k=j by omega]
 first|(rw [if_pos oz] at e9;rw [e9])|(rw [if_neg oz,List.append_nil] at e9;rw [e9])
 exact ⟨oa,oc,rfl,(by have hh:=H6.kM 0;exact hh)⟩
theorem Je (z:ByteArray) (text:ByteArray) (w:World) (rT:cP eM w (some ⟨0,0,none⟩) qu 64) (lw:Laid w):
 Calls Tryz.prog 4 #[.string z,.string text] w (aX fun v w'=>v= .bool true∧ax w [] w' []):=by
 have jC:=rT.le
 refine cH Tryz.func4 (h:=fun H0=>ab 8 (h:=aA (c:=DG w (rT.at H0) (lw.at H0)) (k:=?_)))
 rintro _ w1 ⟨rfl,u1⟩
 have H1:=H0.call u1
 refine o9 6 [4,0] 0 H1 (fun B R L e v=>∃tx:ByteArray,e=(1,.string tx)::B∧av w L v (R)∧(tx.size≤7)) ?_ ?_
 refine aN 4 rfl (HQ rfl rfl ?_)
 exact aN 0 rfl (lZ 0 (min ((text.size:Nat):Int) 7) 0 ((min ((text.size:Nat):Int) 7).toNat) Tryz.underlying9 rfl rfl rfl (.inl ⟨rfl,rfl⟩) (.inr ⟨_,rfl⟩) oz oz ⟨by omega,by omega,by omega⟩ (cA 2 (h:=by exact ⟨text.extract 0 ((min ((text.size:Nat):Int) 7).toNat),rfl,H1,(by rw [ByteArray.size_extract];omega)⟩)))
 rintro Γ1 w2 ⟨tx,rfl,H2,htx⟩
 refine ab 4 (h:=aA (c:=JT _ w2) (k:=?_))
 rintro _ w3 ⟨b_1,rfl,u2,aip⟩
 have H3:=H2.call u2
 refine dv 2 (fun QH=>?_) fun QH=>?_
 exact bE 6 (h:=⟨rfl,H3.af⟩)
 refine ab 5 (h:=aA (c:=mC _ _ w3 (rT.at H3) (lw.at H3)) (k:=?_))
 rintro _ w4 ⟨EN,pX,pD,Ei,IH,y2,HG,yY,HF,y3,HH,yq,GJ,yk,GH,yr,GK,zi,Ih,zh,Ie,zj,Ii,rfl,u3,Hy⟩
 have H4:=H3.ns u3
 refine ab 4 (h:=dB H4 (k:=fun w5 H5=>aY 0 (h:=bL H5 10 (k:=fun w6 H6=>aC 11 (fun Za=>?_) fun Za=>?_))))
 have hn9:=nK.nil Hy oz
 exact ab 3 (h:=aM (H6.b 10) (k:=bE 6 (h:=⟨(by rw [hn9];rfl),H6.af⟩)))
 have acZ:pD=0:=by omega
 obtain ⟨T,CN,D2,v8,hl5,hp5,hr5,Yg⟩:=(show nK z 200 EN pX 0 from acZ▸Hy).acc
 have TQ:Sub EN.tree (EN.tree.length-1) T:=by have h9:=Sub.self CN;rw [v8] at h9;exact h9
 refine ab 12 (h:=aM (H6.b 10) (k:=ab 1 (h:=aA (c:=LF Ei EN.tree _ _ T w6 (H6.rt 0) oz TQ D2 oz) (k:=?_))))
 rintro _ w7 ⟨bH,bF,ll,b6,rfl,u6,lv,TF⟩
 have H7:=H6.ns u6
 refine dA 10 [10,9,8,5,1,4] (fun B R L m e v=>∃i,e=(10,b7 i)::B∧av w L v (R)∧(i≤tx.size+1)∧m=tx.size+1-i) (i:=⟨0,rfl,H7,om,rfl⟩) (h:=?_)
 rintro m1 Γ2 w8 ⟨i,rfl,H8,hi,rfl⟩
 refine aC 8 (fun Y8=>?_) fun Y8=>?_
 refine dA 11 [11,10,9,8,5,1,4] (fun B R L m e v=>∃j,e=(11,b7 j)::B∧av w L v (R)∧(i≤j∧j≤tx.size+1)∧m=tx.size+1-j) (i:=⟨i,rfl,H8,om,rfl⟩) (h:=?_)
 rintro m2 Γ3 w9 ⟨j,rfl,H9,hj,rfl⟩
 refine aC 8 (fun UI=>?_) fun UI=>?_
 refine dA 18 [14,13,12,11,10,9,8,5,1,4] (fun B R L m e v=>∃k,∃fr:Bool,∃up:Bool,e=(14,b7 k)::(13,.bool up)::(12,.bool fr)::B∧av w L v (R)∧(i≤k∧k≤j+1)∧(fr=true↔lE (bf (tN tx) T) i k j)∧(up=true↔lC (bf (tN tx) T) i k)∧m=j+1-k) (i:=⟨i,false,false,rfl,H9,om,(by exact lE.start),(by exact lC.start),rfl⟩) (h:=?_)
 rintro m3 Γ4 iy ⟨k,fr,up,rfl,bW,hk,pU,nL,rfl⟩
 refine aC 8 (fun R2=>?_) fun R2=>?_
 have acU:=lv.len
 have aix:=lv.row (i:=k) oz
 have acW:=lv.row (i:=i) oz
 refine fI 4 bW (h:=fun gS bP=>yA 2 60 (fun JW=>?_) fun JW=>?_)
 refine yA 10 70 (fun wg=>?_) fun wg=>?_
 exact cv 13 [13,12,77,76,75,74,73,72,71,67,66,65,64,63,62,61,14,11,10,9,8,5,1,4] (h:=ab 2 (h:=aV (k:=cm 2 (h:=by exact ⟨k+1,true,true,rfl,bP,om,(by first|exact lE.yes pU JW|exact lE.no pU JW (lv.get oz oz) oz),(by first|exact lC.yes nL wg|exact lC.no nL wg (lv.get oz oz) oz),rfl⟩))))
 exact cp 2 14 (bP.rt 11) (D:=fun _ hC=>cg i hC) (h:=cp 0 15 (bP.rt 11) (D:=fun _ hC=>cI hC) (h:=cp 1 17 (show bz bC gS (.slice ((bF.getD i ae).a) ((bF.getD i ae).n) ((bF.getD i ae).c)) ((bF.getD i ae).xs) from (eK.own (bP.bU 12 rfl)).get ae i oz) (D:=fun _ hC=>cg k hC) (h:=cp 0 18 (show bz bC gS (.slice ((bF.getD i ae).a) ((bF.getD i ae).n) ((bF.getD i ae).c)) ((bF.getD i ae).xs) from (eK.own (bP.bU 12 rfl)).get ae i oz) (D:=fun _ hC=>cI hC) (h:=cv 6 [13,12,77,76,75,74,73,72,71,67,66,65,64,63,62,61,14,11,10,9,8,5,1,4] (h:=ab 2 (h:=aV (k:=cm 2 (h:=by exact ⟨k+1,true,((bF.getD i ae).xs).getD k false,rfl,bP,om,(by first|exact lE.yes pU JW|exact lE.no pU JW (lv.get oz oz) oz),(by first|exact lC.yes nL wg|exact lC.no nL wg (lv.get oz oz) oz),rfl⟩))))))))
 refine cp 2 4 (bP.rt 11) (D:=fun _ hC=>cg k hC) (h:=cp 0 5 (bP.rt 11) (D:=fun _ hC=>cI hC) (h:=cp 1 7 (show bz bC gS (.slice ((bF.getD k ae).a) ((bF.getD k ae).n) ((bF.getD k ae).c)) ((bF.getD k ae).xs) from (eK.own (bP.bU 12 rfl)).get ae k oz) (D:=fun _ hC=>cg j hC) (h:=cp 0 8 (show bz bC gS (.slice ((bF.getD k ae).a) ((bF.getD k ae).n) ((bF.getD k ae).c)) ((bF.getD k ae).xs) from (eK.own (bP.bU 12 rfl)).get ae k oz) (D:=fun _ hC=>cI hC) (h:=yA 3 70 (fun wg=>?_) fun wg=>?_))))
 exact cv 13 [13,12,77,76,75,74,73,72,71,67,66,65,64,63,62,61,14,11,10,9,8,5,1,4] (h:=ab 2 (h:=aV (k:=cm 2 (h:=by exact ⟨k+1,((bF.getD k ae).xs).getD j false,true,rfl,bP,om,(by first|exact lE.yes pU JW|exact lE.no pU JW (lv.get oz oz) oz),(by first|exact lC.yes nL wg|exact lC.no nL wg (lv.get oz oz) oz),rfl⟩))))
 exact cp 2 14 (bP.rt 11) (D:=fun _ hC=>cg i hC) (h:=cp 0 15 (bP.rt 11) (D:=fun _ hC=>cI hC) (h:=cp 1 17 (show bz bC gS (.slice ((bF.getD i ae).a) ((bF.getD i ae).n) ((bF.getD i ae).c)) ((bF.getD i ae).xs) from (eK.own (bP.bU 12 rfl)).get ae i oz) (D:=fun _ hC=>cg k hC) (h:=cp 0 18 (show bz bC gS (.slice ((bF.getD i ae).a) ((bF.getD i ae).n) ((bF.getD i ae).c)) ((bF.getD i ae).xs) from (eK.own (bP.bU 12 rfl)).get ae i oz) (D:=fun _ hC=>cI hC) (h:=cv 6 [13,12,77,76,75,74,73,72,71,67,66,65,64,63,62,61,14,11,10,9,8,5,1,4] (h:=ab 2 (h:=aV (k:=cm 2 (h:=by exact ⟨k+1,((bF.getD k ae).xs).getD j false,((bF.getD i ae).xs).getD k false,rfl,bP,om,(by first|exact lE.yes pU JW|exact lE.no pU JW (lv.get oz oz) oz),(by first|exact lC.yes nL wg|exact lC.no nL wg (lv.get oz oz) oz),rfl⟩))))))))
 have acU:=lv.len
 have FD:=Yg (tN tx) (Wk tx) i j oz (by rw [bY];omega)
 rw [bY,←Sv] at FD
 obtain rfl:k=j+1:=by omega
 have hrs:=I4 tx
 have acW:=lv.row (i:=i) oz
 refine fI 3 bW (h:=fun jz ck=>c7 1 1 (ck.b 10) (D:=fun _ hC=>cd hC) (h:=cp 5 9 (ck.rt 11) (D:=fun _ hC=>cg i hC (cD:=oz)) (h:=cp 0 10 (ck.rt 11) (D:=fun _ hC=>cI hC) (h:=cp 1 12 (show bz bC jz (.slice ((bF.getD i ae).a) ((bF.getD i ae).n) ((bF.getD i ae).c)) ((bF.getD i ae).xs) from (eK.own (ck.bU 12 rfl)).get ae i oz) (D:=fun _ hC=>cg j hC (cD:=oz)) (h:=cp 0 13 (show bz bC jz (.slice ((bF.getD i ae).a) ((bF.getD i ae).n) ((bF.getD i ae).c)) ((bF.getD i ae).xs) from (eK.own (ck.bU 12 rfl)).get ae i oz) (D:=fun _ hC=>cI hC) (h:=dj 0 5 (D:=aA (c:=nR _ _ i _ j jz oz oz oz oz) (k:=?_))))))))
 rintro _ kK ⟨gF,iO,rfl,u7⟩
 have cU:Uu14:=(ck.iZ u7).re rfl
 refine ⟨⟨(show bz bC kK (.slice ((bF.getD i ae).a) ((bF.getD i ae).n) ((bF.getD i ae).c)) ((bF.getD i ae).xs) from (eK.own (cU.bU 12 rfl)).get ae i oz),(show bz bC kK (.slice ((bF.getD i ae).a) ((bF.getD i ae).n) ((bF.getD i ae).c)) ((bF.getD i ae).xs) from (eK.own (cU.bU 12 rfl)).get ae i oz),trivial,(cU.rt 11),(cU.rt 11),trivial,trivial,(cU.b 10),trivial,trivial⟩,?_⟩
 refine dj 0 6 (D:=aA (c:=gP EN.fw y2 yY y3 _ _ _ gF (ft (tN tx) i j) _ kK (cU.rt 1) (cU.rt 2) (cU.rt 3) (cU.rt 13)) (k:=?_))
 rintro _ nH ⟨rfl,u8⟩
 have cN:=cU.call u8
 refine ⟨⟨(show bz bC nH (.slice ((bF.getD i ae).a) ((bF.getD i ae).n) ((bF.getD i ae).c)) ((bF.getD i ae).xs) from (eK.own (cN.bU 12 rfl)).get ae i oz),(show bz bC nH (.slice ((bF.getD i ae).a) ((bF.getD i ae).n) ((bF.getD i ae).c)) ((bF.getD i ae).xs) from (eK.own (cN.bU 12 rfl)).get ae i oz),trivial,(cN.rt 11),(cN.rt 11),trivial,trivial,trivial⟩,?_⟩
 refine nJ 0 14 ⟨_,_,_,rfl,rfl,rfl,rfl,rfl,rfl⟩ (fun _=>oA Tryz.underlying4 rfl rfl ⟨rfl,rfl⟩) (EG 1 94 (fun g63=>?_) fun g63=>?_)
 exact absurd (Bool.eq_iff_iff.2 (FD.1.trans (lv.get oz oz).symm)) g63
 refine c7 1 17 (cN.b 10) (D:=fun _ hC=>cd hC) (h:=dj 4 21 (D:=aA (c:=nR _ _ i _ j nH oz oz oz oz) (k:=?_)))
 rintro _ tU ⟨s4,wQ,rfl,u9⟩
 have dt:=cN.ns u9
 refine ⟨⟨trivial,(dt.b 10),trivial,trivial⟩,?_⟩
 refine dj 0 22 (D:=aA (c:=gP EN.se yq yk yr _ _ _ s4 (ft (tN tx) i j) _ tU (dt.rt 4) (dt.rt 5) (dt.rt 6) (dt.rt 14)) (k:=?_))
 rintro _ ur ⟨rfl,uU⟩
 have dw:=dt.call uU
 refine ⟨⟨trivial,trivial⟩,?_⟩
 refine nJ 0 24 ⟨_,_,_,rfl,rfl,rfl,rfl,rfl,rfl⟩ (fun _=>oA Tryz.underlying4 rfl rfl ⟨rfl,rfl⟩) (EG 2 105 (fun Qa=>?_) fun Qa=>?_)
 exact absurd (Bool.eq_iff_iff.2 (FD.2.1.trans (pU.trans lE.fin).symm)) Qa
 refine c7 1 28 (dw.b 10) (D:=fun _ hC=>cd hC) (h:=gk 3 33 (D:=fun _=>kB) (h:=gk 2 36 (D:=fun _=>kB) (h:=dj 1 30 (D:=aA (c:=Ew _ ur oz) (k:=?_)))))
 rintro _ xq ⟨rfl,xr⟩
 have fH:=dw.call xr
 refine ⟨⟨trivial,trivial,trivial,trivial,trivial,trivial,trivial,(fH.b 10),trivial,trivial⟩,?_⟩
 refine dj 0 37 (D:=aA (c:=nR _ _ (tx.size-j) _ (tx.size-i) xq oz oz oz oz) (k:=?_))
 rintro _ zn ⟨Kn,UL,rfl,tV⟩
 have il:=fH.ns tV
 refine ⟨⟨trivial,(il.b 10),trivial,trivial⟩,?_⟩
 refine dj 0 38 (D:=aA (c:=gP EN.bk zi zh zj _ _ _ Kn _ _ zn (il.rt 7) (il.rt 8) (il.rt 9) (il.rt 15)) (k:=?_))
 rintro _ zm ⟨rfl,zu⟩
 have jh:=il.call zu
 refine ⟨⟨trivial,trivial⟩,?_⟩
 refine nJ 0 40 ⟨_,_,_,rfl,rfl,rfl,rfl,rfl,rfl⟩ (fun _=>oA Tryz.underlying4 rfl rfl ⟨rfl,rfl⟩) (cv 3 [120,119,117,116,109,118,115,114,113,112,111,110,108,107,106,103,101,100,102,99,98,97,96,95,11,10,9,8,5,1,4] (h:=aC 0 (fun D9=>?_) fun D9=>?_))
 exfalso;exact absurd (Bool.eq_iff_iff.2 (FD.2.2.trans (nL.trans lC.fin).symm)) D9
 exact cv 3 [119,117,116,109,118,115,114,113,112,111,110,108,107,106,103,101,100,102,99,98,97,96,95,11,10,9,8,5,1,4] (h:=ab 2 (h:=aV (k:=cm 2 (h:=by exact ⟨j+1,rfl,(jh.pm [0,1,2,3,4,5,6,7,8,9,10,11,12] rfl rfl),om,rfl⟩))))
 exact ab 5 (h:=aV (k:=cm 2 (h:=by exact ⟨i+1,rfl,H9,om,rfl⟩)))
 exact bE 8 (h:=⟨rfl,H8.af⟩)
open Go Go.Sx Go.ChangeShapes Go.WideShapes Go.ChangeAt Go.RowKit
def CH:List (String×DataW Unit):=[("math/bits.deBruijn64tab",Rows.laid_math_bits_deBruijn64tab)]
theorem own:ownKnob Tryz.prog.godebug=none:=by kernel_rfl
theorem Yk:Tryz.prog.globalNamed "math/bits.deBruijn64tab" =some 0:=by kernel_rfl
theorem aa6:(Tryz.prog.globals[0]?).map (·.type)=some 281:=by kernel_rfl
theorem Nf (os:Os) (args:Array Value):laidMetH Tryz.prog CH ((World.doorLaid Tryz.prog 400 os).forCall (fun _ _=>0) ⟨#[],args,[]⟩).memory:=
  laidMetH_of_parts3 (fuel:=8) (laidMet_of_run' 8 iA iA) iA iA
theorem Nj:(Rows.laid_math_bits_deBruijn64tab:DataW Unit)= .agg (qu.map fun n=> .lit (.int .u8 ((n:Nat):Int))):=rfl
theorem EE {W:World} (h:laidMetH Tryz.prog CH W):bz eM W (.slice (some ⟨0,0,none⟩) qu.length 64) qu:=by
  rw [MakeChecks.laidMetH_plain _ _ _ iA] at h
  obtain ⟨ps,⟨g0,t0,cs0,f0,p0,q0,hg0,ht0,hv0,hd0,_,_⟩,_,_⟩:=h
  obtain rfl:=Option.some.inj (Yk.symm.trans hg0)
  obtain rfl:=Option.some.inj (aa6.symm.trans ht0)
  obtain ⟨xs,m1,rfl,hx1,hlen,hn,hel⟩:=DataW.trod_array Tryz.underlying281 hd0
  have c5:Tryz.prog.cellsOf 5=1:=by kernel_rfl
  have KB:=congrArg Prod.fst hx1
  rw [Nj] at KB
  simp only [DataW.agg.injEq] at KB
  have jv:eM.all qu=qu.map fun n=>Value.int .u8 ((n:Nat):Int):=rfl
  refine ⟨some ⟨0,0,none⟩,64,rfl,rfl,by decide,fun j u hj=>⟨⟨0,0,none⟩,rfl,?_⟩⟩
  rw [jv,List.getElem?_map] at hj
  obtain ⟨n,hn1,rfl⟩:=Option.map_eq_some_iff.1 hj
  have acP:j<64:=by have:=(List.getElem?_eq_some_iff.1 hn1).1;rwa [uL] at this
  have h1:=hel j acP
  rw [c5,Nat.mul_one] at h1
  have PF:j<xs.length:=by omega
  rw [List.getElem?_eq_getElem PF] at h1
  obtain ⟨k,e1,e2,_⟩:=DataW.trod_int Tryz.underlying5 h1
  have e3:(xs.map (·.1))[j]?=some (.lit (.int .u8 k)):=by rw [List.getElem?_map,List.getElem?_eq_getElem PF,e2];rfl
  rw [←KB,List.getElem?_map,hn1] at e3
  have e4:((n:Nat):Int)=k:=by simpa using e3
  rw [ld,Nat.zero_add,World.var?_cell Yk hv0 j,e4]
  have e5:(cs0.toList.drop j).take 1=[Value.int .u8 k]:=e1
  have e6:((cs0.toList.drop j).take 1)[0]?=some (Value.int .u8 k):=by rw [e5];rfl
  rw [List.getElem?_take] at e6
  simpa using e6
theorem PA {W:World} (hs:W.ShapedOpen Tryz.prog):Laid W:=
  ⟨cell_of_shapedOpen_int hs (t:=3) (zero:= #[.int .i64 0]) (of_decide_eq_true iA) iA rfl iA iA Tryz.underlying3⟩
theorem C3 {H:Type} {enc:TypeId×Value→H} {a:Assume} {C:Checked} {os:Os} {f:FuncId} {fn:Func} {s:ChangeSpec} {conds:List PathCond} {apart fresh handsOn again:Bool} {X:World→Array Value→Prop}
    (hX:∀(w w':World) (args:Array Value),w.heap=w'.heap→X w args→X w' args)
    (own:ownKnob C.prog.godebug=none) (started:os.Started) (SW:C.prog.inits.idxOf? f=none) (X2:C.prog.funcs[f]?=some fn)
    (witness:∃(w:World) (tape:Tape) (i:Input),w.os=os∧(w.forCall tape i).Shaped C.prog∧i.vars=[]∧Input.okWide C.prog (w.forCall tape i) .any w.heap.size f i∧
      ((s.pre enc C.prog fn conds apart (w.forCall tape i).memory i.args∧X (w.forCall tape i).memory i.args)∧sizedMet enc C.prog fn (OpenSpec.ofChange s) apart (w.forCall tape i).memory i.args)∧a.holds C.prog (lone (Frame.enter C.prog f i.args .normal) [] (w.forCall tape i)))
    (NL:∀(W:World) (base:Nat) (args:Array Value) (ds gs:List (DataW H)) (before:List MemPlace),
      (∀(j:Nat) t v,fn.params[j]?=some t→args[j]?=some v→Value.okWide C.prog W .any base t v)→
      DataW.Whole enc C.prog fn.params.toList s.vars apart W args.toList ds gs before→
      (DataW.weightsEach C.prog (fn.params.toList++s.plain.varTypes C.prog) (ds++gs)).all (· ≤reachBytes)=true→X W args→W.ShapedOpen C.prog→
      Calls C.prog f args W fun e W'=>∃v,e= .returned v∧s.post enc C.prog fn apart fresh handsOn again W args v W'):
    ReturnsInHanded a C os f .any (fun w args=>(s.pre enc C.prog fn conds apart w args∧X w args)∧sizedMet enc C.prog fn (OpenSpec.ofChange s) apart w args) (s.post enc C.prog fn apart fresh handsOn again):=by
  refine returnsInHanded_of_calls own started SW witness ?_
  intro w tape i _ hsh _ bB qj _
  obtain ⟨_,_,_,fn',acX,_,_,_,_,Ft⟩:=bB
  obtain rfl:fn'=fn:=Option.some.inj (acX.symm.trans X2)
  obtain ⟨⟨⟨ds,gs,before,hw,hc⟩,hx⟩,hz⟩:=qj
  have hw':=DataW.Whole.of_heap (w':=w.forCall tape i) (by rfl) hw
  refine (NL (w.forCall tape i) w.heap.size i.args ds gs before Ft hw' (hz.weights hw) (hX _ _ _ (by rfl) hx) hsh).mono fun e W' ⟨v,he,hp⟩=>?_
  subst he
  exact ChangeSpec.post_blind hp
end Go.Proofs.YtpbgmkhmdbchpaaGreatDoor
