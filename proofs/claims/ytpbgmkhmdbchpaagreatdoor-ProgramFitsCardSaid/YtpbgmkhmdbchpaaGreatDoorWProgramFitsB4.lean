/- The walks of functions, printed by wip/tools/gw.py. -/
import Derived.Test.YtpbgmkhmdbchpaaGreatDoorWProgramFitsB3
set_option linter.unusedVariables false
set_option linter.unusedSimpArgs false
set_option linter.unusedSectionVars false
set_option maxRecDepth 20000
namespace Go.Sx
theorem fm {p:Prop} (h:p:=by first|omega|(simp only [List.length_set];omega)):p:=h
theorem dD {p:Prop} (h:p:=by first|omega|(simp only [List.length_append,List.length_nil,List.length_cons,List.length_singleton];omega)):p:=h
end Go.Sx
namespace Go.Proofs.YtpbgmkhmdbchpaaGreatDoor
open Go Go.Sx
theorem B4 (g:Nat) (p:PS) (oa:aP) (oc:Nat) (on:Nat) (ta:aP) (tc:Nat) (tn:Nat) (w:World) (hp:Hp w [aQ g #[.slice oa on oc,.slice ta tn tc,.bool p.fh] 145,ag aJ (.slice oa on oc) 89 p.out,ag fY (.slice ta tn tc) 142 p.st]) (iu:0<p.st.length∧p.st.length≤1000000):
 Calls Tryz.prog 106 #[.pointer (some ⟨g,0,none⟩)] w (aX fun v w'=>v=bu (.slice ta tn tc) ((tn-1)*2)∧ax w [aQ g #[.slice oa on oc,.slice ta tn tc,.bool p.fh] 145,ag aJ (.slice oa on oc) 89 p.out,ag fY (.slice ta tn tc) 142 p.st] w' [aQ g #[.slice oa on oc,.slice ta tn tc,.bool p.fh] 145,ag aJ (.slice oa on oc) 89 p.out,ag fY (.slice ta tn tc) 142 p.st]):=by
 obtain rfl:on=p.out.length:=(cC hp (List.mem_of_getElem? (i:=1) rfl)).len
 obtain rfl:tn=p.st.length:=(cC hp (List.mem_of_getElem? (i:=2) rfl)).len
 exact tW hp Tryz.func106 (h:=fun H0=>fI 6 H0 (h:=fun w1 H1=>c7 3 3 (H1.b 0) (D:=fun _ hC=>aM hC) (h:=c7 3 7 (H1.b 0) (D:=fun _ hC=>aM hC) (h:=gk 1 9 (D:=fun _=>kB) (h:=cp 0 10 (H1.rt 2) (D:=fun _ hC=>jb (p.st.length-1) hC (cD:=oz)) (h:=bE 4 (h:=⟨rfl,(H1.se [0,1,2])⟩)))))))
theorem ss (g:Nat) (p:PS) (oa:aP) (oc:Nat) (on:Nat) (ta:aP) (tc:Nat) (tn:Nat) (w:World) (hp:Hp w [aQ g #[.slice oa on oc,.slice ta tn tc,.bool p.fh] 145,ag aJ (.slice oa on oc) 89 p.out,ag fY (.slice ta tn tc) 142 p.st]) (me:iQ p 1000000) (iu:0<p.st.length) (hb:p.out.length+8*p.st.length≤1000000):
 Calls Tryz.prog 105 #[.pointer (some ⟨g,0,none⟩)] w (aX fun v w'=>∃fO fN,∃fE:Nat,v= .tuple #[]∧ax w [aQ g #[.slice oa on oc,.slice ta tn tc,.bool p.fh] 145,ag aJ (.slice oa on oc) 89 p.out,ag fY (.slice ta tn tc) 142 p.st] w' [aQ g #[.slice fO fE fN,.slice ta tn tc,.bool ((aO p).fh)] 145,ag aJ (.slice fO fE fN) 89 ((aO p).out),ag fY (.slice ta tn tc) 142 ((aO p).st)]):=by
 obtain rfl:on=p.out.length:=(cC hp (List.mem_of_getElem? (i:=1) rfl)).len
 obtain rfl:tn=p.st.length:=(cC hp (List.mem_of_getElem? (i:=2) rfl)).len
 have VD:=me.2 (p.st.length-1)
 have mL:=(iQ.join me).2 (p.st.length-1)
 refine tW hp Tryz.func105 (h:=fun H0=>ab 6 (h:=aM (H0.b 0) (k:=dv 3 (fun Bg=>?_) fun Bg=>?_)))
 refine ryZ 1 (h:=?_)
 have e:aO p=p:=vT (by simpa using Bg)
 rw [e]
 exact ⟨oa,oc,p.out.length,rfl,(H0.se [0,1,2])⟩
 refine aY 7 (h:=jV H0 0 (k:=fun w1 H1=>?_))
 have H2:av _ _ _ [[_,_,_]]:=av.of (ax.iW H1 (l:=[0,1,2]) rfl rfl) rfl
 refine ab 5 (h:=aA (c:=B4 _ (⟨p.out,p.st,false⟩:PS) oa oc p.out.length ta tc p.st.length w1 (H2.dr 0) (by first|omega|(dsimp only;omega))) (k:=?_))
 rintro _ w2 ⟨rfl,u2⟩
 have H3:av w [aQ g #[aH oa p.out oc,aH ta p.st tc,.bool p.fh] 145,cE aJ 89 oa p.out oc,cE fY 142 ta p.st tc] w2 [[aQ g #[aH oa p.out oc,aH ta p.st tc,.bool false] 145,cE aJ 89 oa p.out oc,cE fY 142 ta p.st tc]]:=H2.on 0 rfl u2
 refine ab 6 (h:=KA (LC (H3.dr 0) 2) (hj:=fm) (k:=ab 0 (h:=j4 (LC (H3.dr 0) 2) (hj:=fm) (k:=ab 0 (h:=nu (LC (H3.dr 0) 2) (hj:=fm) (k:=ab 0 (h:=aV (k:=ab 0 (h:=KA (LC (H3.dr 0) 2) (hj:=fm) (k:=ab 0 (h:=j4 (LC (H3.dr 0) 2) (hj:=fm) (k:=?_))))))))))))
 have H4:=H3.sn
 refine aY 0 (h:=SE (⟨((p.st.getD (p.st.length-1) fx).parts)+1,(p.st.getD (p.st.length-1) fx).aL⟩:Lv) H4 2 (hj:=fm) (k:=fun w3 H5=>ab 5 (h:=KA (H5.rt 2) (hj:=fm) (k:=ab 0 (h:=j4 (H5.rt 2) (hj:=fm) (k:=ab 0 (h:=nu (H5.rt 2) (hj:=fm) (k:=aC 3 (fun UK=>?_) fun UK=>?_))))))))
 refine ab 5 (h:=aM (H5.b 0) (k:=ab 0 (h:=cu (us:=[ai 5,aj Bs.zero.w0,aj Bs.zero.w1,aj Bs.zero.w2,aj Bs.zero.w3,ai 0,ai 0]) (k:=ab 0 (h:=dL aJ ([(⟨5,Bs.zero,0,0⟩:Nd)]:List Nd) H5 (k:=fun w4 H6=>?_))))))
 refine aN 0 rfl (ff (T:=aJ) (xs:=p.out) (ys:=([(⟨5,Bs.zero,0,0⟩:Nd)]:List Nd)) rfl Tryz.underlying24 Ld rfl rfl rfl (H6.rt 1).len (H6.ow 1) (H6.rt 3) dD dD fun a1 c1 w5 u5=>?_)
 have H7:=((H6.un 1 u5).drop 3).no
 refine aY 2 (h:=jV H7 0 (k:=fun w6 H8=>DY 1 (h:=?_)))
 have e:=yO (show p.fh=true by simpa using Bg) iu
 rw [e,if_pos UK]
 exact ⟨a1,c1,(p.out++([(⟨5,Bs.zero,0,0⟩:Nd)]:List Nd)).length,rfl,(H8.se [0,1,2])⟩
 refine DY 1 (h:=?_)
 have e:=yO (show p.fh=true by simpa using Bg) iu
 rw [e,if_neg UK]
 exact ⟨oa,oc,p.out.length,rfl,(H5.se [0,1,2])⟩
theorem n7 (g:Nat) (p:PS) (oa:aP) (oc:Nat) (on:Nat) (ta:aP) (tc:Nat) (tn:Nat) (w:World) (hp:Hp w [aQ g #[.slice oa on oc,.slice ta tn tc,.bool p.fh] 145,ag aJ (.slice oa on oc) 89 p.out,ag fY (.slice ta tn tc) 142 p.st]) (me:iQ p 1000000) (iu:0<p.st.length) (hb:p.out.length+8*p.st.length≤1000000):
 Calls Tryz.prog 81 #[.pointer (some ⟨g,0,none⟩)] w (aX fun v w'=>∃fO fN,∃fE:Nat,v= .tuple #[]∧ax w [aQ g #[.slice oa on oc,.slice ta tn tc,.bool p.fh] 145,ag aJ (.slice oa on oc) 89 p.out,ag fY (.slice ta tn tc) 142 p.st] w' [aQ g #[.slice fO fE fN,.slice ta tn tc,.bool ((bD p).fh)] 145,ag aJ (.slice fO fE fN) 89 ((bD p).out),ag fY (.slice ta tn tc) 142 ((bD p).st)]):=by
 obtain rfl:on=p.out.length:=(cC hp (List.mem_of_getElem? (i:=1) rfl)).len
 obtain rfl:tn=p.st.length:=(cC hp (List.mem_of_getElem? (i:=2) rfl)).len
 have VD:=me.2 (p.st.length-1)
 have mL:=(iQ.join me).2 (p.st.length-1)
 have JN:=di p
 have XW:=gI p
 refine tW hp Tryz.func81 (h:=fun H0=>?_)
 have H1:av _ _ _ [[_,_,_]]:=av.of (ax.iW H0 (l:=[0,1,2]) rfl rfl) rfl
 refine ab 3 (h:=aA (c:=ss _ p oa oc p.out.length ta tc p.st.length w (H1.dr 0) me iu hb) (k:=?_))
 rintro _ w1 ⟨eV,eU,gr,rfl,u1⟩
 have H2:=H1.un 0 u1
 refine ab 5 (h:=aA (c:=B4 _ (aO p) eV eU gr ta tc p.st.length w1 (H2.dr 0) (by first|omega|(dsimp only;omega))) (k:=?_))
 rintro _ w2 ⟨rfl,u2⟩
 have H3:=H2.un 0 u2
 refine ab 7 (h:=KA (LC (H3.dr 0) 2) (hj:=fm) (k:=ab 0 (h:=j4 (LC (H3.dr 0) 2) (hj:=fm) (k:=ab 0 (h:=nu (LC (H3.dr 0) 2) (hj:=fm) (k:=aC 3 (fun QI=>?_) fun QI=>?_))))))
 refine ab 5 (h:=aM ((H3.dr 0).aQ (List.mem_of_getElem? (i:=0) rfl)) (k:=ab 0 (h:=cu (us:=[ai 2,aj Bs.zero.w0,aj Bs.zero.w1,aj Bs.zero.w2,aj Bs.zero.w3,ai 0,ai 0]) (k:=ab 0 (h:=dL aJ ([(⟨2,Bs.zero,0,0⟩:Nd)]:List Nd) H3 (k:=fun w3 H4=>?_))))))
 have H5:=H4.sn
 refine aN 0 rfl (ff (T:=aJ) (xs:=((aO p).out)) (ys:=([(⟨2,Bs.zero,0,0⟩:Nd)]:List Nd)) rfl Tryz.underlying24 Ld rfl rfl rfl (H5.rt 1).len (H5.ow 1) (H5.rt 3) dD dD fun a1 c1 w4 u4=>?_)
 have H6:=((H5.un 1 u4).drop 3).no
 refine aY 2 (h:=jV H6 0 (k:=fun w5 H7=>ab 5 (h:=KA (H7.rt 2) (hj:=fm) (k:=ab 0 (h:=j4 (H7.rt 2) (hj:=fm) (k:=aY 0 (h:=SE (⟨0,(((aO p).st).getD (p.st.length-1) fx).aL⟩:Lv) H7 2 (hj:=fm) (k:=fun w6 H8=>ab 5 (h:=KA (H8.rt 2) (hj:=fm) (k:=ab 0 (h:=j4 (H8.rt 2) (hj:=fm) (k:=ab 0 (h:=nu (H8.rt 2) (hj:=fm) (k:=ab 0 (h:=aV (h1:=(by first|omega|(rw [fT oz];dsimp only;omega))) (h2:=(by first|omega|(rw [fT oz];dsimp only;omega))) (k:=ab 0 (h:=KA (H8.rt 2) (hj:=fm) (k:=ab 0 (h:=j4 (H8.rt 2) (hj:=fm) (k:=aY 0 (h:=SE (⟨(((((aO p).st).set (p.st.length-1) (⟨0,(((aO p).st).getD (p.st.length-1) fx).aL⟩:Lv)).getD (p.st.length-1) fx).parts),((((((aO p).st).set (p.st.length-1) (⟨0,(((aO p).st).getD (p.st.length-1) fx).aL⟩:Lv)).getD (p.st.length-1) fx).aL)+1)⟩:Lv) H8 2 (hj:=fm) (k:=fun w7 H9=>cv 2 [2,0] (h:=ab 3 (h:=KA (H9.rt 2) (hj:=fm) (k:=ab 0 (h:=j4 (H9.rt 2) (hj:=fm) (k:=ab 0 (h:=nu (H9.rt 2) (hj:=fm) (k:=aC 3 (fun Du=>?_) fun Du=>?_)))))))))))))))))))))))))))))
 refine ab 5 (h:=aM (H9.b 0) (k:=ab 0 (h:=cu (us:=[ai 6,aj Bs.zero.w0,aj Bs.zero.w1,aj Bs.zero.w2,aj Bs.zero.w3,ai 0,ai 0]) (k:=ab 0 (h:=dL aJ ([(⟨6,Bs.zero,0,0⟩:Nd)]:List Nd) H9 (k:=fun w8 bW=>ab 0 (h:=kJ bW 1 (bW.rt 4) (hb:=dD) (kW:=dD) (k:=fun a2 c2 w9 Vo=>?_))))))))
 have bP:=(Vo.drop 4).no
 refine aY 2 (h:=jV bP 0 (k:=fun iy ck=>DY 1 (h:=?_)))
 rw [mW iu]
 first|rw [if_pos QI]|rw [if_neg QI]
 first|rw [if_pos (show ((KI (aO p) (p.st.length-1)).getD (p.st.length-1) fx).aL>1 from Du)]|rw [if_neg (show¬((KI (aO p) (p.st.length-1)).getD (p.st.length-1) fx).aL>1 from Du)]
 exact ⟨a2,c2,((((aO p).out)++([(⟨2,Bs.zero,0,0⟩:Nd)]:List Nd))++([(⟨6,Bs.zero,0,0⟩:Nd)]:List Nd)).length,rfl,(ck.se [0,1,2])⟩
 refine DY 1 (h:=?_)
 rw [mW iu]
 first|rw [if_pos QI]|rw [if_neg QI]
 first|rw [if_pos (show ((KI (aO p) (p.st.length-1)).getD (p.st.length-1) fx).aL>1 from Du)]|rw [if_neg (show¬((KI (aO p) (p.st.length-1)).getD (p.st.length-1) fx).aL>1 from Du)]
 exact ⟨a1,c1,(((aO p).out)++([(⟨2,Bs.zero,0,0⟩:Nd)]:List Nd)).length,rfl,(H9.se [0,1,2])⟩
 refine ab 5 (h:=KA (LC (H3.dr 0) 2) (hj:=fm) (k:=ab 0 (h:=j4 (LC (H3.dr 0) 2) (hj:=fm) (k:=?_))))
 have cU:=H3.sn
 refine aY 0 (h:=SE (⟨0,(((aO p).st).getD (p.st.length-1) fx).aL⟩:Lv) cU 2 (hj:=fm) (k:=fun gS cN=>ab 5 (h:=KA (cN.rt 2) (hj:=fm) (k:=ab 0 (h:=j4 (cN.rt 2) (hj:=fm) (k:=ab 0 (h:=nu (cN.rt 2) (hj:=fm) (k:=ab 0 (h:=aV (h1:=(by first|omega|(rw [fT oz];dsimp only;omega))) (h2:=(by first|omega|(rw [fT oz];dsimp only;omega))) (k:=ab 0 (h:=KA (cN.rt 2) (hj:=fm) (k:=ab 0 (h:=j4 (cN.rt 2) (hj:=fm) (k:=aY 0 (h:=SE (⟨(((((aO p).st).set (p.st.length-1) (⟨0,(((aO p).st).getD (p.st.length-1) fx).aL⟩:Lv)).getD (p.st.length-1) fx).parts),((((((aO p).st).set (p.st.length-1) (⟨0,(((aO p).st).getD (p.st.length-1) fx).aL⟩:Lv)).getD (p.st.length-1) fx).aL)+1)⟩:Lv) cN 2 (hj:=fm) (k:=fun jz dt=>ab 5 (h:=KA (dt.rt 2) (hj:=fm) (k:=ab 0 (h:=j4 (dt.rt 2) (hj:=fm) (k:=ab 0 (h:=nu (dt.rt 2) (hj:=fm) (k:=aC 3 (fun Du=>?_) fun Du=>?_))))))))))))))))))))))
 refine ab 5 (h:=aM (dt.b 0) (k:=ab 0 (h:=cu (us:=[ai 6,aj Bs.zero.w0,aj Bs.zero.w1,aj Bs.zero.w2,aj Bs.zero.w3,ai 0,ai 0]) (k:=ab 0 (h:=dL aJ ([(⟨6,Bs.zero,0,0⟩:Nd)]:List Nd) dt (k:=fun kK dw=>?_))))))
 refine aN 0 rfl (ff (T:=aJ) (xs:=((aO p).out)) (ys:=([(⟨6,Bs.zero,0,0⟩:Nd)]:List Nd)) rfl Tryz.underlying24 Ld rfl rfl rfl (dw.rt 1).len (dw.ow 1) (dw.rt 3) dD dD fun a3 c3 nH OO=>?_)
 have fH:=((dw.un 1 OO).drop 3).no
 refine aY 2 (h:=jV fH 0 (k:=fun tU il=>DY 1 (h:=?_)))
 rw [mW iu]
 first|rw [if_pos QI]|rw [if_neg QI]
 first|rw [if_pos (show ((KI (aO p) (p.st.length-1)).getD (p.st.length-1) fx).aL>1 from Du)]|rw [if_neg (show¬((KI (aO p) (p.st.length-1)).getD (p.st.length-1) fx).aL>1 from Du)]
 exact ⟨a3,c3,(((aO p).out)++([(⟨6,Bs.zero,0,0⟩:Nd)]:List Nd)).length,rfl,(il.se [0,1,2])⟩
 refine DY 1 (h:=?_)
 rw [mW iu]
 first|rw [if_pos QI]|rw [if_neg QI]
 first|rw [if_pos (show ((KI (aO p) (p.st.length-1)).getD (p.st.length-1) fx).aL>1 from Du)]|rw [if_neg (show¬((KI (aO p) (p.st.length-1)).getD (p.st.length-1) fx).aL>1 from Du)]
 exact ⟨eV,eU,gr,rfl,(dt.se [0,1,2])⟩
theorem sr (g:Nat) (p:PS) (oa:aP) (oc:Nat) (on:Nat) (ta:aP) (tc:Nat) (tn:Nat) (n:Nd) (w:World) (hp:Hp w [aQ g #[.slice oa on oc,.slice ta tn tc,.bool p.fh] 145,ag aJ (.slice oa on oc) 89 p.out,ag fY (.slice ta tn tc) 142 p.st]) (me:iQ p 1000000) (iu:0<p.st.length) (hb:p.out.length+8*p.st.length≤1000000):
 Calls Tryz.prog 101 #[.pointer (some ⟨g,0,none⟩),.agg #[ai n.kind,aj n.set.w0,aj n.set.w1,aj n.set.w2,aj n.set.w3,ai n.lo,ai n.hi]] w (aX fun v w'=>∃fO fN,∃fE:Nat,v= .tuple #[]∧ax w [aQ g #[.slice oa on oc,.slice ta tn tc,.bool p.fh] 145,ag aJ (.slice oa on oc) 89 p.out,ag fY (.slice ta tn tc) 142 p.st] w' [aQ g #[.slice fO fE fN,.slice ta tn tc,.bool ((eX p n).fh)] 145,ag aJ (.slice fO fE fN) 89 ((eX p n).out),ag fY (.slice ta tn tc) 142 ((eX p n).st)]):=by
 obtain rfl:on=p.out.length:=(cC hp (List.mem_of_getElem? (i:=1) rfl)).len
 obtain rfl:tn=p.st.length:=(cC hp (List.mem_of_getElem? (i:=2) rfl)).len
 have VD:=me.2 (p.st.length-1)
 have mL:=(iQ.join me).2 (p.st.length-1)
 have JN:=di p
 have XW:=gI p
 refine tW hp Tryz.func101 (h:=fun H0=>ab 2 (h:=jf H0 (k:=fun w1 H1=>?_)))
 have H2:av _ _ _ [[_,_,_],[_]]:=av.of (ax.iW H1 (l:=[0,1,2,3]) rfl rfl) rfl
 refine ab 5 (h:=aA (c:=ss _ p oa oc p.out.length ta tc p.st.length w1 (H2.dr 0) me iu hb) (k:=?_))
 rintro _ w2 ⟨eV,eU,gr,rfl,u2⟩
 have H3:=H2.un 0 u2
 refine fI 3 H3 (h:=fun w3 H4=>c7 4 4 ((H4.dr 0).aQ (List.mem_of_getElem? (i:=0) rfl)) (D:=fun _ hC=>aM hC) (h:=c7 0 5 (H4.b 1) (D:=fun _ hC=>cd hC) (h:=dj 0 6 (D:=dL aJ ([n]:List Nd) H4 (k:=fun w4 H5=>?_)))))
 refine ⟨⟨((H5.dr 0).aQ (List.mem_of_getElem? (i:=0) rfl)),trivial,trivial,trivial,trivial,trivial⟩,?_⟩
 have H6:=H5.sn
 refine uR 0 7 ⟨_,_,_,rfl,rfl,rfl,rfl,rfl,rfl⟩ (ff (T:=aJ) (xs:=((aO p).out)) (ys:=([n]:List Nd)) rfl Tryz.underlying24 Ld rfl rfl rfl (H6.rt 1).len (H6.ow 1) (H6.rt 4) dD dD fun a1 c1 w5 u4=>?_)
 have H7:=((H6.un 1 u4).drop 4).no
 refine ⟨⟨trivial,trivial⟩,?_⟩
 refine dj 2 10 (D:=jV H7 0 (k:=fun w6 H8=>?_))
 refine ⟨trivial,?_⟩
 exact aY 6 (h:=jV H8 0 (k:=fun w7 H9=>DY 1 (h:=⟨a1,c1,(((aO p).out)++([n]:List Nd)).length,rfl,(H9.se [0,1,2])⟩)))
theorem Jc (g:Nat) (p:PS) (oa:aP) (oc:Nat) (on:Nat) (ta:aP) (tc:Nat) (tn:Nat) (w:World) (hp:Hp w [aQ g #[.slice oa on oc,.slice ta tn tc,.bool p.fh] 145,ag aJ (.slice oa on oc) 89 p.out,ag fY (.slice ta tn tc) 142 p.st]) (me:iQ p 1000000) (iu:0<p.st.length) (hb:p.out.length+8*p.st.length≤1000000):
 Calls Tryz.prog 103 #[.pointer (some ⟨g,0,none⟩)] w (aX fun v w'=>∃fO fN,∃fE:Nat,∃uZ uY,∃Re:Nat,v=ai (vz p)∧ax w [aQ g #[.slice oa on oc,.slice ta tn tc,.bool p.fh] 145,ag aJ (.slice oa on oc) 89 p.out,ag fY (.slice ta tn tc) 142 p.st] w' [aQ g #[.slice fO fE fN,.slice uZ Re uY,.bool ((vy p).fh)] 145,ag aJ (.slice fO fE fN) 89 ((vy p).out),ag fY (.slice uZ Re uY) 142 ((vy p).st)]):=by
 obtain rfl:on=p.out.length:=(cC hp (List.mem_of_getElem? (i:=1) rfl)).len
 obtain rfl:tn=p.st.length:=(cC hp (List.mem_of_getElem? (i:=2) rfl)).len
 have VD:=me.2 (p.st.length-1)
 have mL:=(iQ.join me).2 (p.st.length-1)
 have JN:=di p
 have XW:=gI p
 refine tW hp Tryz.func103 (h:=fun H0=>ab 11 (h:=aM (H0.b 0) (k:=aC 4 (fun UI=>?_) fun UI=>?_)))
 refine bE 6 (h:=?_)
 have h9:p.st.length>20:=by omega
 rw [show vz p=4 from if_pos h9,show vy p=p from if_pos h9]
 exact ⟨oa,oc,p.out.length,ta,tc,p.st.length,rfl,(H0.se [0,1,2])⟩
 have H1:av _ _ _ [[_,_,_]]:=av.of (ax.iW H0 (l:=[0,1,2]) rfl rfl) rfl
 refine ab 5 (h:=aA (c:=ss _ p oa oc p.out.length ta tc p.st.length w (H1.dr 0) me iu hb) (k:=?_))
 rintro _ w1 ⟨eV,eU,gr,rfl,u1⟩
 have H2:=H1.un 0 u1
 refine ab 8 (h:=aM ((H2.dr 0).aQ (List.mem_of_getElem? (i:=0) rfl)) (k:=ab 0 (h:=cu (k:=ab 0 (h:=dL fY ([(⟨0,0⟩:Lv)]:List Lv) H2 (k:=fun w2 H3=>?_))))))
 have H4:=H3.sn
 refine aN 0 rfl (ff (T:=fY) (xs:=((aO p).st)) (ys:=([(⟨0,0⟩:Lv)]:List Lv)) rfl Tryz.underlying143 Rf rfl rfl rfl (H4.rt 2).len (H4.ow 2) (H4.rt 3) dD dD fun a1 c1 w3 u3=>?_)
 have H5:=((H4.un 2 u3).drop 3).no
 refine aY 2 (h:=jV H5 0 (k:=fun w4 H6=>bE 8 (h:=?_)))
 have h9:¬p.st.length>20:=by omega
 rw [show vz p=0 from if_neg h9,show vy p=⟨(aO p).out,(aO p).st++[fx],(aO p).fh⟩ from (if_neg h9).trans (LQ p)]
 exact ⟨eV,eU,gr,a1,c1,(((aO p).st)++([(⟨0,0⟩:Lv)]:List Lv)).length,rfl,(H6.se [0,1,2])⟩
theorem EM (g:Nat) (p:PS) (oa:aP) (oc:Nat) (on:Nat) (ta:aP) (tc:Nat) (tn:Nat) (w:World) (hp:Hp w [aQ g #[.slice oa on oc,.slice ta tn tc,.bool p.fh] 145,ag aJ (.slice oa on oc) 89 p.out,ag fY (.slice ta tn tc) 142 p.st]) (me:iQ p 1000000) (iu:0<p.st.length) (hb:p.out.length+8*p.st.length≤1000000):
 Calls Tryz.prog 104 #[.pointer (some ⟨g,0,none⟩)] w (aX fun v w'=>∃fO fN,∃fE:Nat,∃uZ uY,∃Re:Nat,v=ai (qw p)∧ax w [aQ g #[.slice oa on oc,.slice ta tn tc,.bool p.fh] 145,ag aJ (.slice oa on oc) 89 p.out,ag fY (.slice ta tn tc) 142 p.st] w' [aQ g #[.slice fO fE fN,.slice uZ Re uY,.bool ((qv p).fh)] 145,ag aJ (.slice fO fE fN) 89 ((qv p).out),ag fY (.slice uZ Re uY) 142 ((qv p).st)]):=by
 obtain rfl:on=p.out.length:=(cC hp (List.mem_of_getElem? (i:=1) rfl)).len
 obtain rfl:tn=p.st.length:=(cC hp (List.mem_of_getElem? (i:=2) rfl)).len
 have VD:=me.2 (p.st.length-1)
 have mL:=(iQ.join me).2 (p.st.length-1)
 have JN:=di p
 have XW:=gI p
 have RP:=gO p
 refine tW hp Tryz.func104 (h:=fun H0=>ab 11 (h:=aM (H0.b 0) (k:=aC 4 (fun Ga=>?_) fun Ga=>?_)))
 refine bE 6 (h:=?_)
 have h9:p.st.length=1:=by omega
 rw [show qw p=3 from if_pos h9,show qv p=p from if_pos h9]
 exact ⟨oa,oc,p.out.length,ta,tc,p.st.length,rfl,(H0.se [0,1,2])⟩
 have H1:av _ _ _ [[_,_,_]]:=av.of (ax.iW H0 (l:=[0,1,2]) rfl rfl) rfl
 refine ab 5 (h:=aA (c:=n7 _ p oa oc p.out.length ta tc p.st.length w (H1.dr 0) me iu hb) (k:=?_))
 rintro _ w1 ⟨eV,eU,gr,rfl,u1⟩
 have H2:=H1.un 0 u1
 refine fI 3 H2 (h:=fun w2 H3=>c7 4 4 ((H3.dr 0).aQ (List.mem_of_getElem? (i:=0) rfl)) (D:=fun _ hC=>aM hC) (h:=c7 3 8 ((H3.dr 0).aQ (List.mem_of_getElem? (i:=0) rfl)) (D:=fun _ hC=>aM hC) (h:=gk 1 10 (D:=fun _=>kB) (h:=?_))))
 have H4:=H3.sn
 refine uR 0 11 ⟨_,_,_,rfl,rfl,rfl,rfl,rfl,rfl⟩ (La (((p.st.length:Nat):Int)-1) (p.st.length-1) (T:=fY) (e:=142) (xs:=((bD p).st)) rfl Tryz.underlying143 Rf rfl rfl (H4.ow 2) oz fm oz fun w3 u2=>?_)
 have H5:=H4.un 2 u2
 refine ⟨⟨trivial,trivial⟩,?_⟩
 refine dj 2 14 (D:=jV H5 0 (k:=fun w4 H6=>?_))
 refine ⟨trivial,?_⟩
 refine aY 7 (h:=jV H6 0 (k:=fun w5 H7=>bE 8 (h:=?_)))
 have h9:¬p.st.length=1:=by omega
 rw [show qw p=0 from if_neg h9,show qv p=iN p from if_neg h9]
 unfold iN
 rw [gO]
 exact ⟨eV,eU,gr,ta,tc,(((bD p).st).take (p.st.length-1)).length,rfl,(H7.se [0,1,2])⟩
theorem B6 (g:Nat) (p:PS) (oa:aP) (oc:Nat) (on:Nat) (ta:aP) (tc:Nat) (tn:Nat) (t:Tk) (w:World) (hp:Hp w [aQ g #[.slice oa on oc,.slice ta tn tc,.bool p.fh] 145,ag aJ (.slice oa on oc) 89 p.out,ag fY (.slice ta tn tc) 142 p.st]) (me:iQ p 1000000) (iu:0<p.st.length) (hb:p.out.length+8*p.st.length≤1000000):
 Calls Tryz.prog 102 #[.pointer (some ⟨g,0,none⟩),.agg #[ai t.kind,ai t.pos,aj t.set.w0,aj t.set.w1,aj t.set.w2,aj t.set.w3,ai t.lo,ai t.hi]] w (aX fun v w'=>∃fO fN,∃fE:Nat,v=ai (BY p t)∧ax w [aQ g #[.slice oa on oc,.slice ta tn tc,.bool p.fh] 145,ag aJ (.slice oa on oc) 89 p.out,ag fY (.slice ta tn tc) 142 p.st] w' [aQ g #[.slice fO fE fN,.slice ta tn tc,.bool ((BV p t).fh)] 145,ag aJ (.slice fO fE fN) 89 ((BV p t).out),ag fY (.slice ta tn tc) 142 ((BV p t).st)]):=by
 obtain rfl:on=p.out.length:=(cC hp (List.mem_of_getElem? (i:=1) rfl)).len
 obtain rfl:tn=p.st.length:=(cC hp (List.mem_of_getElem? (i:=2) rfl)).len
 have VD:=me.2 (p.st.length-1)
 have mL:=(iQ.join me).2 (p.st.length-1)
 have JN:=di p
 have XW:=gI p
 refine tW hp Tryz.func102 (h:=fun H0=>ab 2 (h:=jf H0 (k:=fun w1 H1=>o9 5 [4,3,0] 0 H1 (fun B R L e v=>∃q:Bool,e=(5,.bool q)::B∧av w L v (R)∧(q=decide (cX t))) ?_ ?_)))
 refine ab 2 (h:=aM (H1.b 3) (k:=b9 2 9 (fun g80=>?_) fun g80=>?_))
 exact cA 23 (h:=by exact ⟨true,rfl,H1,(by rw [Bool.eq_iff_iff];simp only [decide_eq_true_eq,true_iff,false_iff,Bool.false_eq_true];unfold cX;omega)⟩)
 refine ab 1 (h:=aM (H1.b 3) (k:=b9 3 14 (fun adh=>?_) fun adh=>?_))
 exact cA 18 (h:=by exact ⟨true,rfl,H1,(by rw [Bool.eq_iff_iff];simp only [decide_eq_true_eq,true_iff,false_iff,Bool.false_eq_true];unfold cX;omega)⟩)
 refine ab 1 (h:=aM (H1.b 3) (k:=b9 2 18 (fun Yl=>?_) fun Yl=>?_))
 refine ab 1 (h:=aM (H1.b 3) (k:=ab 1 (h:=aM (H1.b 3) (k:=b9 2 24 (fun TT=>?_) fun TT=>?_))))
 exact cA 8 (h:=by exact ⟨true,rfl,H1,(by rw [Bool.eq_iff_iff];simp only [decide_eq_true_eq,true_iff,false_iff,Bool.false_eq_true];unfold cX;omega)⟩)
 exact ab 1 (h:=aM (H1.b 3) (k:=cA 6 (h:=by exact ⟨decide (t.hi>(32:Int)),rfl,H1,(by rw [Bool.eq_iff_iff];simp only [decide_eq_true_eq,true_iff,false_iff,Bool.false_eq_true];unfold cX;omega)⟩)))
 exact cA 14 (h:=by exact ⟨false,rfl,H1,(by rw [Bool.eq_iff_iff];simp only [decide_eq_true_eq,true_iff,false_iff,Bool.false_eq_true];unfold cX;omega)⟩)
 rintro Γ1 w2 ⟨q,rfl,H2,hq⟩
 refine dv 0 (fun VU=>?_) fun VU=>?_
 refine bE 6 (h:=?_)
 have h9:cX t:=of_decide_eq_true (hq.symm.trans VU)
 rw [show BY p t=9 from if_pos h9,show BV p t=p from if_pos h9]
 exact ⟨oa,oc,p.out.length,rfl,(H2.se [0,1,2])⟩
 refine ab 5 (h:=aM (H2.b 0) (k:=dv 4 (fun c82=>?_) fun c82=>?_))
 refine bE 6 (h:=?_)
 have h9:¬cX t:=fun h8=>VU (hq.trans (decide_eq_true h8))
 have h7:¬p.fh=true:=by simpa using c82
 rw [show BY p t=3 from (if_neg h9).trans (if_neg h7),show BV p t=p from (if_neg h9).trans (if_neg h7)]
 exact ⟨oa,oc,p.out.length,rfl,(H2.se [0,1,2])⟩
 refine fI 4 H2 (h:=fun w3 H3=>c7 4 4 (H3.b 0) (D:=fun _ hC=>aM hC) (h:=c7 1 6 (H3.b 3) (D:=fun _ hC=>aM hC) (h:=c7 1 8 (H3.b 3) (D:=fun _ hC=>aM hC) (h:=gk 0 9 (D:=fun _=>cu (us:=[ai 7,aj Bs.zero.w0,aj Bs.zero.w1,aj Bs.zero.w2,aj Bs.zero.w3,ai t.lo,ai t.hi])) (h:=dj 0 10 (D:=dL aJ ([(⟨7,Bs.zero,t.lo,t.hi⟩:Nd)]:List Nd) H3 (k:=fun w4 H4=>?_)))))))
 refine ⟨⟨(H4.b 0),trivial,trivial,trivial,trivial,trivial⟩,?_⟩
 refine dj 0 11 (D:=kJ H4 1 (H4.rt 4) (hb:=dD) (kW:=dD) (k:=fun a1 c1 w5 ZM=>?_))
 have H5:=(ZM.drop 4).no
 refine ⟨⟨trivial,trivial⟩,?_⟩
 refine dj 2 14 (D:=jV H5 0 (k:=fun w6 H6=>?_))
 refine ⟨trivial,?_⟩
 refine bE 8 (h:=?_)
 have h9:¬cX t:=fun h8=>VU (hq.trans (decide_eq_true h8))
 have h7:p.fh=true:=by simpa using c82
 rw [show BY p t=0 from (if_neg h9).trans (if_pos h7),show BV p t=_ from (if_neg h9).trans (if_pos h7)]
 exact ⟨a1,c1,(p.out++([(⟨7,Bs.zero,t.lo,t.hi⟩:Nd)]:List Nd)).length,rfl,(H6.se [0,1,2])⟩
theorem EF (g:Nat) (p:PS) (oa:aP) (oc:Nat) (on:Nat) (ta:aP) (tc:Nat) (tn:Nat) (t:Tk) (w:World) (hp:Hp w [aQ g #[.slice oa on oc,.slice ta tn tc,.bool p.fh] 145,ag aJ (.slice oa on oc) 89 p.out,ag fY (.slice ta tn tc) 142 p.st]) (me:iQ p 1000000) (iu:0<p.st.length) (hb:p.out.length+8*p.st.length≤1000000):
 Calls Tryz.prog 80 #[.pointer (some ⟨g,0,none⟩),.agg #[ai t.kind,ai t.pos,aj t.set.w0,aj t.set.w1,aj t.set.w2,aj t.set.w3,ai t.lo,ai t.hi]] w (aX fun v w'=>∃fO fN,∃fE:Nat,∃uZ uY,∃Re:Nat,v=ai (dM p t)∧ax w [aQ g #[.slice oa on oc,.slice ta tn tc,.bool p.fh] 145,ag aJ (.slice oa on oc) 89 p.out,ag fY (.slice ta tn tc) 142 p.st] w' [aQ g #[.slice fO fE fN,.slice uZ Re uY,.bool ((fC p t).fh)] 145,ag aJ (.slice fO fE fN) 89 ((fC p t).out),ag fY (.slice uZ Re uY) 142 ((fC p t).st)]):=by
 obtain rfl:on=p.out.length:=(cC hp (List.mem_of_getElem? (i:=1) rfl)).len
 obtain rfl:tn=p.st.length:=(cC hp (List.mem_of_getElem? (i:=2) rfl)).len
 have VD:=me.2 (p.st.length-1)
 have mL:=(iQ.join me).2 (p.st.length-1)
 have JN:=di p
 have XW:=gI p
 refine tW hp Tryz.func80 (h:=fun H0=>ab 2 (h:=jf H0 (k:=fun w1 H1=>ab 7 (h:=aM (H1.b 3) (k:=aC 9 (fun AO=>?_) fun AO=>?_)))))
 refine ab 3 (h:=cd (H1.b 3) (k:=ab 0 (h:=cu (k:=?_))))
 have H2:av _ _ _ [[_,_,_],[_]]:=av.of (ax.iW H1 (l:=[0,1,2,3]) rfl rfl) rfl
 refine ab 0 (h:=aA (c:=sr _ p oa oc p.out.length ta tc p.st.length (⟨1,t.set,0,0⟩:Nd) w1 (H2.dr 0) me iu hb) (k:=?_))
 rintro _ w2 ⟨eV,eU,gr,rfl,u2⟩
 have H3:=H2.un 0 u2
 refine bE 9 (h:=?_)
 first|rw [(pB p AO).1,(pB p AO).2]|rw [(pv p wO).1,(pv p wO).2]|rw [(po p sV).1,(po p sV).2]|rw [(pA p xP).1,(pA p xP).2]|rw [(pw p lB).1,(pw p lB).2]|rw [(pz p lA).1,(pz p lA).2]|rw [(py p mZ).1,(py p mZ).2]|rw [(pk p (t:=t) oz).1,(pk p (t:=t) oz).2]
 exact ⟨eV,eU,gr,ta,tc,p.st.length,rfl,(H3.se [0,1,2])⟩
 refine aC 6 (fun wO=>?_) fun wO=>?_
 refine ab 2 (h:=cu (us:=[ai 3,aj Bs.zero.w0,aj Bs.zero.w1,aj Bs.zero.w2,aj Bs.zero.w3,ai 0,ai 0]) (k:=?_))
 have H4:av _ _ _ [[_,_,_],[_]]:=av.of (ax.iW H1 (l:=[0,1,2,3]) rfl rfl) rfl
 refine ab 0 (h:=aA (c:=sr _ p oa oc p.out.length ta tc p.st.length (⟨3,Bs.zero,0,0⟩:Nd) w1 (H4.dr 0) me iu hb) (k:=?_))
 rintro _ w3 ⟨qY,qX,pP,rfl,u3⟩
 have H5:=H4.un 0 u3
 refine bE 9 (h:=?_)
 first|rw [(pB p AO).1,(pB p AO).2]|rw [(pv p wO).1,(pv p wO).2]|rw [(po p sV).1,(po p sV).2]|rw [(pA p xP).1,(pA p xP).2]|rw [(pw p lB).1,(pw p lB).2]|rw [(pz p lA).1,(pz p lA).2]|rw [(py p mZ).1,(py p mZ).2]|rw [(pk p (t:=t) oz).1,(pk p (t:=t) oz).2]
 exact ⟨qY,qX,pP,ta,tc,p.st.length,rfl,(H5.se [0,1,2])⟩
 refine aC 6 (fun sV=>?_) fun sV=>?_
 refine ab 2 (h:=cu (us:=[ai 4,aj Bs.zero.w0,aj Bs.zero.w1,aj Bs.zero.w2,aj Bs.zero.w3,ai 0,ai 0]) (k:=?_))
 have H6:av _ _ _ [[_,_,_],[_]]:=av.of (ax.iW H1 (l:=[0,1,2,3]) rfl rfl) rfl
 refine ab 0 (h:=aA (c:=sr _ p oa oc p.out.length ta tc p.st.length (⟨4,Bs.zero,0,0⟩:Nd) w1 (H6.dr 0) me iu hb) (k:=?_))
 rintro _ w4 ⟨vC,vB,vA,rfl,u4⟩
 have H7:=H6.un 0 u4
 refine bE 9 (h:=?_)
 first|rw [(pB p AO).1,(pB p AO).2]|rw [(pv p wO).1,(pv p wO).2]|rw [(po p sV).1,(po p sV).2]|rw [(pA p xP).1,(pA p xP).2]|rw [(pw p lB).1,(pw p lB).2]|rw [(pz p lA).1,(pz p lA).2]|rw [(py p mZ).1,(py p mZ).2]|rw [(pk p (t:=t) oz).1,(pk p (t:=t) oz).2]
 exact ⟨vC,vB,vA,ta,tc,p.st.length,rfl,(H7.se [0,1,2])⟩
 refine aC 6 (fun xP=>?_) fun xP=>?_
 have H8:av _ _ _ [[_,_,_],[_]]:=av.of (ax.iW H1 (l:=[0,1,2,3]) rfl rfl) rfl
 refine ab 2 (h:=aA (c:=n7 _ p oa oc p.out.length ta tc p.st.length w1 (H8.dr 0) me iu hb) (k:=?_))
 rintro _ w5 ⟨Cq,Cl,Cg,rfl,u5⟩
 have H9:=H8.un 0 u5
 refine bE 9 (h:=?_)
 first|rw [(pB p AO).1,(pB p AO).2]|rw [(pv p wO).1,(pv p wO).2]|rw [(po p sV).1,(po p sV).2]|rw [(pA p xP).1,(pA p xP).2]|rw [(pw p lB).1,(pw p lB).2]|rw [(pz p lA).1,(pz p lA).2]|rw [(py p mZ).1,(py p mZ).2]|rw [(pk p (t:=t) oz).1,(pk p (t:=t) oz).2]
 exact ⟨Cq,Cl,Cg,ta,tc,p.st.length,rfl,(H9.se [0,1,2])⟩
 refine aC 6 (fun lB=>?_) fun lB=>?_
 refine ab 3 (h:=cd (H1.b 3) (k:=?_))
 have bW:av _ _ _ [[_,_,_],[_]]:=av.of (ax.iW H1 (l:=[0,1,2,3]) rfl rfl) rfl
 refine ab 0 (h:=aA (c:=B6 _ p oa oc p.out.length ta tc p.st.length t w1 (bW.dr 0) me iu hb) (k:=?_))
 rintro _ w6 ⟨Co,Ck,Cf,rfl,u6⟩
 have bP:=bW.un 0 u6
 refine bE 4 (h:=?_)
 first|rw [(pB p AO).1,(pB p AO).2]|rw [(pv p wO).1,(pv p wO).2]|rw [(po p sV).1,(po p sV).2]|rw [(pA p xP).1,(pA p xP).2]|rw [(pw p lB).1,(pw p lB).2]|rw [(pz p lA).1,(pz p lA).2]|rw [(py p mZ).1,(py p mZ).2]|rw [(pk p (t:=t) oz).1,(pk p (t:=t) oz).2]
 exact ⟨Co,Ck,Cf,ta,tc,p.st.length,rfl,(bP.se [0,1,2])⟩
 refine aC 6 (fun lA=>?_) fun lA=>?_
 have ck:av _ _ _ [[_,_,_],[_]]:=av.of (ax.iW H1 (l:=[0,1,2,3]) rfl rfl) rfl
 refine ab 3 (h:=aA (c:=Jc _ p oa oc p.out.length ta tc p.st.length w1 (ck.dr 0) me iu hb) (k:=?_))
 rintro _ w7 ⟨Cn,Cj,Ce,gV,gU,K0,rfl,u7⟩
 have cU:=ck.un 0 u7
 refine bE 4 (h:=?_)
 first|rw [(pB p AO).1,(pB p AO).2]|rw [(pv p wO).1,(pv p wO).2]|rw [(po p sV).1,(po p sV).2]|rw [(pA p xP).1,(pA p xP).2]|rw [(pw p lB).1,(pw p lB).2]|rw [(pz p lA).1,(pz p lA).2]|rw [(py p mZ).1,(py p mZ).2]|rw [(pk p (t:=t) oz).1,(pk p (t:=t) oz).2]
 exact ⟨Cn,Cj,Ce,gV,gU,K0,rfl,(cU.se [0,1,2])⟩
 refine aC 6 (fun mZ=>?_) fun mZ=>?_
 have cN:av _ _ _ [[_,_,_],[_]]:=av.of (ax.iW H1 (l:=[0,1,2,3]) rfl rfl) rfl
 refine ab 3 (h:=aA (c:=EM _ p oa oc p.out.length ta tc p.st.length w1 (cN.dr 0) me iu hb) (k:=?_))
 rintro _ w8 ⟨Cm,Ci,Cd,qL,qK,We,rfl,u8⟩
 have dt:=cN.un 0 u8
 refine bE 4 (h:=?_)
 first|rw [(pB p AO).1,(pB p AO).2]|rw [(pv p wO).1,(pv p wO).2]|rw [(po p sV).1,(po p sV).2]|rw [(pA p xP).1,(pA p xP).2]|rw [(pw p lB).1,(pw p lB).2]|rw [(pz p lA).1,(pz p lA).2]|rw [(py p mZ).1,(py p mZ).2]|rw [(pk p (t:=t) oz).1,(pk p (t:=t) oz).2]
 exact ⟨Cm,Ci,Cd,qL,qK,We,rfl,(dt.se [0,1,2])⟩
 refine bE 6 (h:=?_)
 first|rw [(pB p AO).1,(pB p AO).2]|rw [(pv p wO).1,(pv p wO).2]|rw [(po p sV).1,(po p sV).2]|rw [(pA p xP).1,(pA p xP).2]|rw [(pw p lB).1,(pw p lB).2]|rw [(pz p lA).1,(pz p lA).2]|rw [(py p mZ).1,(py p mZ).2]|rw [(pk p (t:=t) oz).1,(pk p (t:=t) oz).2]
 exact ⟨oa,oc,p.out.length,ta,tc,p.st.length,rfl,(H1.se [0,1,2])⟩
theorem Pc (la:aP) (l:List Tk) (lc:Nat) (end_:Int) (w:World) (rl:cP dC w la l lc) (hl:l.length≤1000):
 Calls Tryz.prog 54 #[aH la l lc,ai end_] w (aX fun v w'=>∃a2 c2,∃n2:Nat,∃o:List Nd,∃at_ er,v= .tuple #[.slice a2 n2 c2,ai at_,ai er]∧ax w [] w' [ag aJ (.slice a2 n2 c2) 89 o]∧(DT l end_ o at_ er)):=by
 have eI:=rl.le
 refine cH Tryz.func54 (h:=fun H0=>ab 9 (h:=cu (k:=ab 0 (h:=dL fY ([(⟨0,0⟩:Lv)]:List Lv) H0 (k:=fun w1 H1=>ab 0 (h:=cu (k:=ab 0 (h:=jf H1 (k:=fun w2 H2=>?_)))))))))
 have H3:av w [] w2 [[ag fY (.slice (some ⟨w.heap.size,0,none⟩) (([(⟨0,0⟩:Lv)]:List Lv).length) (([(⟨0,0⟩:Lv)]:List Lv).length)) 142 ([(⟨0,0⟩:Lv)]:List Lv)],[aQ w1.heap.size #[.slice none (([]:List Nd).length) 0,.slice (some ⟨w.heap.size,0,none⟩) (([(⟨0,0⟩:Lv)]:List Lv).length) (([(⟨0,0⟩:Lv)]:List Lv).length),.bool false] 145],[ag aJ (.slice none (([]:List Nd).length) 0) 89 ([]:List Nd)]]:=H2.iZ (ax.zW w2 aJ 89)
 refine dA 12 [17,16,15,7,6,5,4,1] (fun B R L m e v=>∃k,∃p:PS,∃xa xc,∃xn:Nat,∃ya yc,∃yn:Nat,e=(17,b7 k)::B∧av w L v ([ag fY (.slice ya yn yc) 142 p.st]::[aQ w1.heap.size #[.slice xa xn xc,.slice ya yn yc,.bool p.fh] 145]::[ag aJ (.slice xa xn xc) 89 p.out]::R)∧(k≤l.length)∧(p=dE l k)∧(∀j,j<k→eO l j=0)∧m=l.length-k) (i:=⟨0,LI,none,0,([]:List Nd).length,(some ⟨w.heap.size,0,none⟩),([(⟨0,0⟩:Lv)]:List Lv).length,([(⟨0,0⟩:Lv)]:List Lv).length,rfl,(H3.re rfl),om,rfl,(by intro j hj;omega),rfl⟩) (h:=?_)
 rintro m1 Γ1 w3 ⟨k,p,xa,xc,xn,ya,yc,yn,rfl,H4,hk,hp,bB,rfl⟩
 have hyn:yn=p.st.length:=by first|exact (cC (H4.bU 1 rfl) (List.mem_of_getElem? (i:=0) rfl)).len|exact (cC (H4.bU 2 rfl) (List.mem_of_getElem? (i:=0) rfl)).len|exact (cC (H4.bU 0 rfl) (List.mem_of_getElem? (i:=0) rfl)).len
 have hbd:=va l k
 refine aC 6 (fun N2=>?_) fun N2=>?_
 refine ab 6 (h:=jb k (rl.at H4) (k:=ab 0 (h:=Fl (rl.at H4) (k:=ab 0 (h:=dB H4 (k:=fun w4 H5=>aY 0 (h:=bL H5 3 (k:=fun w5 H6=>ab 5 (h:=cd (H6.b 3) (k:=?_))))))))))
 have H7:av _ _ _ [[_,_,_],[_]]:=av.of (ax.iW H6 (l:=[1,2,0,3]) rfl rfl) rfl
 refine ab 0 (h:=aA (c:=EF _ p xa xc xn ya yc yn (l.getD k c6) w5 (H7.dr 0) (by rw [hp];exact BQ (zy l k oz) oz) (by rw [hp];exact gX l k) (by have h9:=va l k oz;rw [hp];omega)) (k:=?_))
 rintro _ w6 ⟨eV,eU,gr,gV,gU,K0,rfl,u5⟩
 have H8:=H7.un 0 u5
 refine aC 9 (fun Ge=>?_) fun Ge=>?_
 exact fI 1 H8 (h:=fun w7 H9=>c7 1 1 (H9.b 1) (D:=fun _ hC=>aM hC) (h:=mA 7 (h:=⟨none,0,0,[],(l.getD k c6).pos,dM p (l.getD k c6),rfl,eC H9,(.inl ⟨k,by omega,bB,by unfold eO;rw [←hp];simpa using Ge,rfl,rfl,by unfold eO;rw [←hp]⟩)⟩)))
 exact ab 4 (h:=aV (k:=cm 2 (h:=by exact ⟨k+1,fC p (l.getD k c6),eV,eU,gr,gV,gU,K0,rfl,(H8.pm [2,0,1] rfl rfl),om,(by rw [gW oz,←hp]),(by intro j hj;exact (Nat.lt_or_ge j k).elim (bB j) (fun h9=>by (obtain rfl:j=k:=by omega);unfold eO;rw [←hp];simpa using Ge)),rfl⟩)))
 refine ab 8 (h:=aM (H4.b 1) (k:=aC 4 (fun mY=>?_) fun mY=>?_))
 refine mA 9 (h:=?_)
 obtain rfl:k=l.length:=by omega
 exact ⟨none,0,0,[],end_,3,rfl,eC H4,(.inr ⟨bB,.inl ⟨by rw [←hp];omega,rfl,rfl,rfl⟩⟩)⟩
 have bW:av _ _ _ [[_,_,_]]:=av.of (ax.iW H4 (l:=[1,2,0]) rfl rfl) rfl
 refine ab 5 (h:=aA (c:=n7 _ p xa xc xn ya yc yn w3 (bW.dr 0) (by rw [hp];exact BQ (zy l k oz) oz) (by rw [hp];exact gX l k) (by have h9:=va l k oz;rw [hp];omega)) (k:=?_))
 rintro _ w8 ⟨qY,qX,pP,rfl,u6⟩
 have bP:=bW.un 0 u6
 have MK:pP=((bD p).out).length:=(cC (bP.bU 0 rfl) (List.mem_of_getElem? (i:=1) rfl)).len
 refine ab 8 (h:=aM ((bP.dr 0).aQ (List.mem_of_getElem? (i:=0) rfl)) (k:=aC 4 (fun jx=>?_) fun jx=>?_))
 refine mA 8 (h:=?_)
 obtain rfl:k=l.length:=by omega
 exact ⟨none,0,0,[],0,4,rfl,eC bP,(.inr ⟨bB,.inr ⟨by have h9:=gX l l.length;rw [←hp] at h9 ⊢;omega,.inl ⟨by rw [←hp];omega,rfl,rfl,rfl⟩⟩⟩)⟩
 refine ab 7 (h:=aM ((bP.dr 0).aQ (List.mem_of_getElem? (i:=0) rfl)) (k:=mA 6 (h:=?_)))
 obtain rfl:k=l.length:=by omega
 have ck:=bP.sn
 exact ⟨qY,qX,pP,(bD p).out,0,0,rfl,ck.kM 1,(.inr ⟨bB,.inr ⟨by have h9:=gX l l.length;rw [←hp] at h9 ⊢;omega,.inr ⟨by rw [←hp];omega,by rw [←hp],rfl,rfl⟩⟩⟩)⟩
theorem Et (la:aP) (l:List Tk) (lc:Nat) (w:World) (rl:cP dC w la l lc) (hl:l.length≤1000):
 Calls Tryz.prog 77 #[aH la l lc] w (aX fun v w'=>∃i_ e_ op_,v= .tuple #[ai i_,ai e_,ai op_]∧ax w [] w' []∧(VW l i_ e_ op_)):=by
 have eI:=rl.le
 refine cH Tryz.func77 (h:=fun H0=>dA 19 [6,5,4,3,2,0] (fun B R L m e v=>∃k op,e=(6,b7 k)::(5,ai op)::B∧av w L v (R)∧(k≤l.length)∧(Od l k op)∧(op≤20)∧m=l.length-k) (i:=⟨0,0,rfl,H0,om,(by exact Od.start l),oz,rfl⟩) (h:=?_))
 rintro m1 Γ1 w1 ⟨k,op,rfl,H1,hk,hW,Tv,rfl⟩
 have iG:=hW.2
 have hbd:=va l k
 have VB:=gX l k
 refine aC 9 (fun c12=>?_) fun c12=>?_
 refine ab 8 (h:=jb k (rl.at H1) (k:=ab 0 (h:=Fl (rl.at H1) (k:=ab 0 (h:=dB H1 (k:=fun w2 H2=>aY 0 (h:=bL H2 0 (k:=fun w3 H3=>o9 2 [7,6,5,4,3,2,0] 0 H3 (fun B R L e v=>∃q1:Bool,e=(8,.bool q1)::B∧av w L v (R)∧((q1=true)↔lj l k)) ?_ ?_))))))))
 refine b9 4 21 (fun g14=>?_) fun g14=>?_
 refine ab 2 (h:=kB (k:=ab 0 (h:=jb (k-1) (rl.at H3) (cD:=oz) (k:=ab 0 (h:=j4 (rl.at H3) (k:=ab 0 (h:=nu (rl.at H3) (k:=b9 2 29 (fun ady=>?_) fun ady=>?_))))))))
 exact cA 38 (h:=by exact ⟨true,rfl,H3,(by unfold lj;simp only [decide_eq_true_eq,Bool.false_eq_true,false_iff,true_iff];omega)⟩)
 refine ab 2 (h:=kB (k:=ab 0 (h:=jb (k-1) (rl.at H3) (cD:=oz) (k:=ab 0 (h:=j4 (rl.at H3) (k:=ab 0 (h:=nu (rl.at H3) (k:=b9 3 38 (fun Yv=>?_) fun Yv=>?_))))))))
 exact cA 29 (h:=by exact ⟨true,rfl,H3,(by unfold lj;simp only [decide_eq_true_eq,Bool.false_eq_true,false_iff,true_iff];omega)⟩)
 refine ab 2 (h:=kB (k:=ab 0 (h:=jb (k-1) (rl.at H3) (cD:=oz) (k:=ab 0 (h:=j4 (rl.at H3) (k:=ab 0 (h:=nu (rl.at H3) (k:=b9 3 47 (fun T1=>?_) fun T1=>?_))))))))
 exact cA 20 (h:=by exact ⟨true,rfl,H3,(by unfold lj;simp only [decide_eq_true_eq,Bool.false_eq_true,false_iff,true_iff];omega)⟩)
 refine ab 2 (h:=kB (k:=ab 0 (h:=jb (k-1) (rl.at H3) (cD:=oz) (k:=ab 0 (h:=j4 (rl.at H3) (k:=ab 0 (h:=nu (rl.at H3) (k:=b9 3 56 (fun Qe=>?_) fun Qe=>?_))))))))
 exact cA 11 (h:=by exact ⟨true,rfl,H3,(by unfold lj;simp only [decide_eq_true_eq,Bool.false_eq_true,false_iff,true_iff];omega)⟩)
 exact ab 2 (h:=kB (k:=ab 0 (h:=jb (k-1) (rl.at H3) (cD:=oz) (k:=ab 0 (h:=j4 (rl.at H3) (k:=ab 0 (h:=nu (rl.at H3) (k:=cA 5 (h:=by exact ⟨decide (((l.getD (k-1) c6).kind)=(4:Int)),rfl,H3,(by unfold lj;simp only [decide_eq_true_eq,Bool.false_eq_true,false_iff,true_iff];omega)⟩)))))))))
 exact cA 46 (h:=by exact ⟨false,rfl,H3,(by unfold lj;simp only [decide_eq_true_eq,Bool.false_eq_true,false_iff,true_iff];omega)⟩)
 rintro Γ2 w4 ⟨q1,rfl,H4,PK⟩
 refine o9 1 [8,7,6,5,4,3,2,0] 0 H4 (fun B R L e v=>∃q2:Bool,e=(73,.bool q2)::B∧av w L v (R)∧(q2=decide ((l.getD k c6).kind<1∨(l.getD k c6).kind>7))) ?_ ?_
 refine ab 2 (h:=aM (H4.b 0) (k:=b9 2 69 (fun g15=>?_) fun g15=>?_))
 exact cA 5 (h:=by exact ⟨true,rfl,H4,(by rw [Bool.eq_iff_iff];simp only [decide_eq_true_eq,true_iff,false_iff,Bool.false_eq_true];omega)⟩)
 exact ab 1 (h:=aM (H4.b 0) (k:=cA 3 (h:=by exact ⟨decide (((l.getD k c6).kind)>(7:Int)),rfl,H4,(by rw [Bool.eq_iff_iff];simp only [decide_eq_true_eq,true_iff,false_iff,Bool.false_eq_true];omega)⟩)))
 rintro Γ3 w5 ⟨q2,rfl,H5,Am⟩
 refine dv 0 (fun xo=>?_) fun xo=>?_
 exact mA 10 (h:=⟨((k:Nat):Int),9,op,rfl,H5.af,(hW.bad oz (y6 (of_decide_eq_true (Am.symm.trans xo))) dk)⟩)
 refine ab 6 (h:=aM (H5.b 0) (k:=aC 3 (fun kH=>?_) fun kH=>?_))
 refine o9 1 [8,7,6,5,4,3,2,0] 0 H5 (fun B R L e v=>∃q3:Bool,e=(103,.bool q3)::B∧av w L v (R)∧(q3=decide (cX (l.getD k c6)))) ?_ ?_
 refine ab 2 (h:=aM (H5.b 0) (k:=b9 2 82 (fun g19=>?_) fun g19=>?_))
 exact cA 22 (h:=by exact ⟨true,rfl,H5,(by rw [Bool.eq_iff_iff];simp only [decide_eq_true_eq,true_iff,false_iff,Bool.false_eq_true];unfold cX;omega)⟩)
 refine ab 1 (h:=aM (H5.b 0) (k:=b9 3 87 (fun adv=>?_) fun adv=>?_))
 exact cA 17 (h:=by exact ⟨true,rfl,H5,(by rw [Bool.eq_iff_iff];simp only [decide_eq_true_eq,true_iff,false_iff,Bool.false_eq_true];unfold cX;omega)⟩)
 refine ab 1 (h:=aM (H5.b 0) (k:=b9 2 91 (fun Yt=>?_) fun Yt=>?_))
 refine ab 1 (h:=aM (H5.b 0) (k:=ab 1 (h:=aM (H5.b 0) (k:=b9 4 99 (fun TY=>?_) fun TY=>?_))))
 exact cA 5 (h:=by exact ⟨true,rfl,H5,(by rw [Bool.eq_iff_iff];simp only [decide_eq_true_eq,true_iff,false_iff,Bool.false_eq_true];unfold cX;omega)⟩)
 exact ab 1 (h:=aM (H5.b 0) (k:=cA 3 (h:=by exact ⟨decide (((l.getD k c6).hi)>(32:Int)),rfl,H5,(by rw [Bool.eq_iff_iff];simp only [decide_eq_true_eq,true_iff,false_iff,Bool.false_eq_true];unfold cX;omega)⟩)))
 exact ab 9 (h:=aM (H5.b 0) (k:=cA 3 (h:=by exact ⟨decide (((l.getD k c6).hi)>(32:Int)),rfl,H5,(by rw [Bool.eq_iff_iff];simp only [decide_eq_true_eq,true_iff,false_iff,Bool.false_eq_true];unfold cX;omega)⟩)))
 rintro Γ4 w6 ⟨q3,rfl,H6,OA⟩
 refine dv 0 (fun AR=>?_) fun AR=>?_
 exact mA 10 (h:=⟨((k:Nat):Int),9,op,rfl,H6.af,(hW.bad oz (Dg kH (of_decide_eq_true (OA.symm.trans AR))) dk)⟩)
 refine dv 8 (fun k7=>?_) fun k7=>?_
 exact mA 10 (h:=⟨((k:Nat):Int),3,op,rfl,H6.af,(hW.bad oz (y5 kH (fun h8=>AR (OA.trans (decide_eq_true h8))) (fun h8=>by have h9:=PK.2 ((gY oz hW.1).1 h8);rw [h9] at k7;cases k7)) dk)⟩)
 refine ab 6 (h:=aM (H6.b 0) (k:=aC 3 (fun fX=>?_) fun fX=>?_))
 refine aC 7 (fun Dv=>?_) fun Dv=>?_
 exact mA 10 (h:=⟨((k:Nat):Int),4,op,rfl,H6.af,(hW.bad oz (by rw [fl fX,if_pos oz]) dk)⟩)
 refine ab 4 (h:=aV (k:=ab 6 (h:=aM (H6.b 0) (k:=aC 3 (fun je=>?_) fun je=>?_))))
 refine aC 7 (fun NT=>?_) fun NT=>?_
 exact mA 10 (h:=⟨((k:Nat):Int),3,op+1,rfl,H6.af,(by first|(exfalso;omega)|exact hW.bad oz (by rw [cZ je,if_pos oz]) (by decide))⟩)
 exact ab 4 (h:=kB (k:=ab 6 (h:=aV (k:=cm 2 (h:=by exact ⟨k+1,(op+1)-1,rfl,(H6.pm [] rfl rfl),om,(by exact hW.next oz (by first|exact gL kH (by rw [OA] at AR;simpa using AR) ((gY oz hW.1).2 (PK.1 (by simpa using k7)))|(rw [fl fX,if_neg oz])|(rw [cZ je,if_neg oz])|exact gM (by rw [Am] at xo;simp only [decide_eq_true_eq] at xo;omega)) (by first|(exfalso;omega)|(rw [if_pos fX];done)|(rw [if_neg fX,if_pos je];done)|(rw [if_neg fX,if_neg je];done))),oz,rfl⟩)))))
 exact ab 5 (h:=aV (k:=cm 2 (h:=by exact ⟨k+1,op+1,rfl,(H6.pm [] rfl rfl),om,(by exact hW.next oz (by first|exact gL kH (by rw [OA] at AR;simpa using AR) ((gY oz hW.1).2 (PK.1 (by simpa using k7)))|(rw [fl fX,if_neg oz])|(rw [cZ je,if_neg oz])|exact gM (by rw [Am] at xo;simp only [decide_eq_true_eq] at xo;omega)) (by first|(exfalso;omega)|(rw [if_pos fX];done)|(rw [if_neg fX,if_pos je];done)|(rw [if_neg fX,if_neg je];done))),oz,rfl⟩)))
 refine ab 5 (h:=aM (H6.b 0) (k:=aC 3 (fun je=>?_) fun je=>?_))
 refine aC 7 (fun NT=>?_) fun NT=>?_
 exact mA 10 (h:=⟨((k:Nat):Int),3,op,rfl,H6.af,(by first|(exfalso;omega)|exact hW.bad oz (by rw [cZ je,if_pos oz]) (by decide))⟩)
 exact ab 4 (h:=kB (k:=ab 6 (h:=aV (k:=cm 2 (h:=by exact ⟨k+1,op-1,rfl,(H6.pm [] rfl rfl),om,(by exact hW.next oz (by first|exact gL kH (by rw [OA] at AR;simpa using AR) ((gY oz hW.1).2 (PK.1 (by simpa using k7)))|(rw [fl fX,if_neg oz])|(rw [cZ je,if_neg oz])|exact gM (by rw [Am] at xo;simp only [decide_eq_true_eq] at xo;omega)) (by first|(exfalso;omega)|(rw [if_pos fX];done)|(rw [if_neg fX,if_pos je];done)|(rw [if_neg fX,if_neg je];done))),oz,rfl⟩)))))
 exact ab 5 (h:=aV (k:=cm 2 (h:=by exact ⟨k+1,op,rfl,(H6.pm [] rfl rfl),om,(by exact hW.next oz (by first|exact gL kH (by rw [OA] at AR;simpa using AR) ((gY oz hW.1).2 (PK.1 (by simpa using k7)))|(rw [fl fX,if_neg oz])|(rw [cZ je,if_neg oz])|exact gM (by rw [Am] at xo;simp only [decide_eq_true_eq] at xo;omega)) (by first|(exfalso;omega)|(rw [if_pos fX];done)|(rw [if_neg fX,if_pos je];done)|(rw [if_neg fX,if_neg je];done))),oz,rfl⟩)))
 refine ab 6 (h:=aM (H5.b 0) (k:=aC 3 (fun fX=>?_) fun fX=>?_))
 refine aC 7 (fun Dv=>?_) fun Dv=>?_
 exact mA 10 (h:=⟨((k:Nat):Int),4,op,rfl,H5.af,(hW.bad oz (by rw [fl fX,if_pos oz]) dk)⟩)
 refine ab 4 (h:=aV (k:=ab 6 (h:=aM (H5.b 0) (k:=aC 3 (fun je=>?_) fun je=>?_))))
 refine aC 7 (fun NT=>?_) fun NT=>?_
 exact mA 10 (h:=⟨((k:Nat):Int),3,op+1,rfl,H5.af,(by first|(exfalso;omega)|exact hW.bad oz (by rw [cZ je,if_pos oz]) (by decide))⟩)
 exact ab 4 (h:=kB (k:=ab 6 (h:=aV (k:=cm 2 (h:=by exact ⟨k+1,(op+1)-1,rfl,(H5.pm [] rfl rfl),om,(by exact hW.next oz (by first|exact gL kH (by rw [OA] at AR;simpa using AR) ((gY oz hW.1).2 (PK.1 (by simpa using k7)))|(rw [fl fX,if_neg oz])|(rw [cZ je,if_neg oz])|exact gM (by rw [Am] at xo;simp only [decide_eq_true_eq] at xo;omega)) (by first|(exfalso;omega)|(rw [if_pos fX];done)|(rw [if_neg fX,if_pos je];done)|(rw [if_neg fX,if_neg je];done))),oz,rfl⟩)))))
 exact ab 5 (h:=aV (k:=cm 2 (h:=by exact ⟨k+1,op+1,rfl,(H5.pm [] rfl rfl),om,(by exact hW.next oz (by first|exact gL kH (by rw [OA] at AR;simpa using AR) ((gY oz hW.1).2 (PK.1 (by simpa using k7)))|(rw [fl fX,if_neg oz])|(rw [cZ je,if_neg oz])|exact gM (by rw [Am] at xo;simp only [decide_eq_true_eq] at xo;omega)) (by first|(exfalso;omega)|(rw [if_pos fX];done)|(rw [if_neg fX,if_pos je];done)|(rw [if_neg fX,if_neg je];done))),oz,rfl⟩)))
 refine ab 5 (h:=aM (H5.b 0) (k:=aC 3 (fun je=>?_) fun je=>?_))
 refine aC 7 (fun NT=>?_) fun NT=>?_
 exact mA 10 (h:=⟨((k:Nat):Int),3,op,rfl,H5.af,(by first|(exfalso;omega)|exact hW.bad oz (by rw [cZ je,if_pos oz]) (by decide))⟩)
 exact ab 4 (h:=kB (k:=ab 6 (h:=aV (k:=cm 2 (h:=by exact ⟨k+1,op-1,rfl,(H5.pm [] rfl rfl),om,(by exact hW.next oz (by first|exact gL kH (by rw [OA] at AR;simpa using AR) ((gY oz hW.1).2 (PK.1 (by simpa using k7)))|(rw [fl fX,if_neg oz])|(rw [cZ je,if_neg oz])|exact gM (by rw [Am] at xo;simp only [decide_eq_true_eq] at xo;omega)) (by first|(exfalso;omega)|(rw [if_pos fX];done)|(rw [if_neg fX,if_pos je];done)|(rw [if_neg fX,if_neg je];done))),oz,rfl⟩)))))
 exact ab 5 (h:=aV (k:=cm 2 (h:=by exact ⟨k+1,op,rfl,(H5.pm [] rfl rfl),om,(by exact hW.next oz (by first|exact gL kH (by rw [OA] at AR;simpa using AR) ((gY oz hW.1).2 (PK.1 (by simpa using k7)))|(rw [fl fX,if_neg oz])|(rw [cZ je,if_neg oz])|exact gM (by rw [Am] at xo;simp only [decide_eq_true_eq] at xo;omega)) (by first|(exfalso;omega)|(rw [if_pos fX];done)|(rw [if_neg fX,if_pos je];done)|(rw [if_neg fX,if_neg je];done))),oz,rfl⟩)))
 exact mA 11 (h:=⟨-1,0,op,rfl,H1.af,(hW.fin oz)⟩)
theorem sj (la:aP) (l:List Tk) (lc:Nat) (cT:Int) (at_:Nat) (N:Nat) (w:World) (rl:bz dC w (.slice la l.length lc) l) (ef:cT=((at_:Nat):Int)) (hl:l.length≤1000) (hg:dG l) (vW:(dE l at_).fh=false) (ha:at_≤l.length) (hN:3*(l.length-at_)+2<N+1) (Aj:∀(la:aP) (l:List Tk) (lc:Nat) (cT:Int) (at_:Nat) (w:World) (rl:bz dC w (.slice la l.length lc) l) (ef:cT=((at_:Nat):Int)) (hl:l.length≤1000) (hg:dG l) (vW:(dE l at_).fh=false) (ha:at_≤l.length) (cF:3*(l.length-at_)+2<N),Calls Tryz.prog 78 #[.slice la l.length lc,ai cT] w (aX fun v w'=>∃a2 c2,∃o:List Nd,∃nx,v= .tuple #[.slice a2 o.length c2,b7 nx]∧ax w [] w' [ag aJ (.slice a2 o.length c2) 89 o]∧(rY l at_ o nx)∧(o.length≤6*(nx-at_)+1))) (Hm:∀(la:aP) (l:List Tk) (lc:Nat) (cT:Int) (at_:Nat) (w:World) (rl:bz dC w (.slice la l.length lc) l) (ef:cT=((at_:Nat):Int)) (hl:l.length≤1000) (hg:dG l) (vW:(dE l at_).fh=false) (ha:at_≤l.length) (cF:3*(l.length-at_)+1<N),Calls Tryz.prog 95 #[.slice la l.length lc,ai cT] w (aX fun v w'=>∃a2 c2,∃o:List Nd,∃nx,v= .tuple #[.slice a2 o.length c2,b7 nx]∧ax w [] w' [ag aJ (.slice a2 o.length c2) 89 o]∧(DX l at_ o nx)∧(o.length≤6*(nx-at_)+1))) (Td:∀(la:aP) (l:List Tk) (lc:Nat) (cT:Int) (at_:Nat) (w:World) (rl:bz dC w (.slice la l.length lc) l) (ef:cT=((at_:Nat):Int)) (hl:l.length≤1000) (hg:dG l) (PU:(l.getD at_ c6).kind=1∨(l.getD at_ c6).kind=3∨(l.getD at_ c6).kind=6∨(l.getD at_ c6).kind=7) (ha:at_<l.length) (cF:3*(l.length-at_)<N),Calls Tryz.prog 139 #[.slice la l.length lc,ai cT] w (aX fun v w'=>∃a2 c2,∃o:List Nd,∃nx,v= .tuple #[.slice a2 o.length c2,b7 nx]∧ax w [] w' [ag aJ (.slice a2 o.length c2) 89 o]∧(dF l at_ o nx)∧(o.length+3≤6*(nx-at_))∧(nx<l.length→¬(l.getD nx c6).kind=5))):
 Calls Tryz.prog 78 #[.slice la l.length lc,ai cT] w (aX fun v w'=>∃a2 c2,∃o:List Nd,∃nx,v= .tuple #[.slice a2 o.length c2,b7 nx]∧ax w [] w' [ag aJ (.slice a2 o.length c2) 89 o]∧(rY l at_ o nx)∧(o.length≤6*(nx-at_)+1)):=by
 subst ef
 have eI:=rl.le
 refine cH Tryz.func78 (h:=fun H0=>ab 10 (h:=aA (c:=Hm la l lc _ at_ w (rl.at H0) oz hl hg (by first|exact vW|exact lL hg oz (.inr (by assumption))|exact lL hg oz (.inl oz)) oz oz) (k:=?_)))
 rintro _ w1 ⟨bH,b6,nq,eB,rfl,u1,mL,Ts⟩
 have H1:=H0.ns u1
 refine dA 9 [7,6,5,4,0] (fun B R L m e v=>∃x:List Nd,∃xa xc i,e=(7,b7 i)::(6,.slice xa x.length xc)::B∧av w L v ([ag aJ (.slice xa x.length xc) 89 x]::R)∧(xZ l at_ x i)∧(at_≤i∧i≤l.length)∧(x.length≤6*(i-at_)+1)∧m=l.length-i) (i:=⟨nq,bH,b6,eB,rfl,H1,(by exact xZ.start mL),(by exact ⟨mL.1,mL.2.1⟩),oz,rfl⟩) (h:=?_)
 rintro m1 Γ1 w2 ⟨x,xa,xc,i,rfl,H2,hE,hi,hz,rfl⟩
 refine b9 8 20 (fun g45=>?_) fun g45=>?_
 refine ab 2 (h:=jb i (rl.at H2) (k:=ab 0 (h:=j4 (rl.at H2) (k:=ab 0 (h:=nu (rl.at H2) (k:=aC 4 (fun Bf=>?_) fun Bf=>?_))))))
 have hE1:=hE.1
 refine ab 7 (h:=aV (k:=ab 0 (h:=aA (c:=Hm la l lc _ (i+1) w2 (rl.at H2) oz hl hg (by first|exact vW|exact lL hg oz (.inr (by assumption))|exact lL hg oz (.inl oz)) oz oz) (k:=?_))))
 rintro _ w3 ⟨gF,iO,Xb,zP,rfl,u2,lu,ahP⟩
 have H3:Uu2:=(H2.iZ u2).re rfl
 have ahC:=lu.1
 have ahB:=lu.2.1
 refine ab 11 (h:=kJ H3 0 (H3.rt 1) (hb:=dD) (kW:=dD) (k:=fun a1 c1 w4 Gk=>?_))
 have H4:=Gk.no
 refine ab 6 (h:=cu (us:=[ai 6,aj Bs.zero.w0,aj Bs.zero.w1,aj Bs.zero.w2,aj Bs.zero.w3,ai 0,ai 0]) (k:=ab 0 (h:=dL aJ ([(⟨6,Bs.zero,0,0⟩:Nd)]:List Nd) H4 (k:=fun w5 H5=>ab 0 (h:=kJ H5 0 (H5.rt 2) (hb:=dD) (kW:=dD) (k:=fun a2 c2 w6 Vj=>?_))))))
 have H6:=(Vj.drop 2).no
 exact cv 3 [6,9,26,25,24,23,22,21,5,4,0] (h:=cm 5 (h:=by exact ⟨(x++Xb)++([(⟨6,Bs.zero,0,0⟩:Nd)]:List Nd),a2,c2,zP,rfl,(H6.pm [0] rfl rfl),(by exact xZ.step hg hE oz Bf lu),(by have h9:=lu.1;have h8:=lu.2.1;omega),(by have h9:=lu.1;have h8:=lu.2.1;simp only [List.length_append,List.length_singleton];omega),rfl⟩))
 have MR:rY l at_ x i:=hE.fin (fun h9 h8=>by first|omega|exact Bf h8)
 exact gh 11 (h:=⟨xa,xc,x,i,rfl,H2.kM 0,MR,oz⟩)
 have MR:rY l at_ x i:=hE.fin (fun h9 h8=>by first|omega|exact Bf h8)
 exact gh 21 (h:=⟨xa,xc,x,i,rfl,H2.kM 0,MR,oz⟩)
theorem sk (la:aP) (l:List Tk) (lc:Nat) (cT:Int) (at_:Nat) (N:Nat) (w:World) (rl:bz dC w (.slice la l.length lc) l) (ef:cT=((at_:Nat):Int)) (hl:l.length≤1000) (hg:dG l) (vW:(dE l at_).fh=false) (ha:at_≤l.length) (hN:3*(l.length-at_)+1<N+1) (Aj:∀(la:aP) (l:List Tk) (lc:Nat) (cT:Int) (at_:Nat) (w:World) (rl:bz dC w (.slice la l.length lc) l) (ef:cT=((at_:Nat):Int)) (hl:l.length≤1000) (hg:dG l) (vW:(dE l at_).fh=false) (ha:at_≤l.length) (cF:3*(l.length-at_)+2<N),Calls Tryz.prog 78 #[.slice la l.length lc,ai cT] w (aX fun v w'=>∃a2 c2,∃o:List Nd,∃nx,v= .tuple #[.slice a2 o.length c2,b7 nx]∧ax w [] w' [ag aJ (.slice a2 o.length c2) 89 o]∧(rY l at_ o nx)∧(o.length≤6*(nx-at_)+1))) (Hm:∀(la:aP) (l:List Tk) (lc:Nat) (cT:Int) (at_:Nat) (w:World) (rl:bz dC w (.slice la l.length lc) l) (ef:cT=((at_:Nat):Int)) (hl:l.length≤1000) (hg:dG l) (vW:(dE l at_).fh=false) (ha:at_≤l.length) (cF:3*(l.length-at_)+1<N),Calls Tryz.prog 95 #[.slice la l.length lc,ai cT] w (aX fun v w'=>∃a2 c2,∃o:List Nd,∃nx,v= .tuple #[.slice a2 o.length c2,b7 nx]∧ax w [] w' [ag aJ (.slice a2 o.length c2) 89 o]∧(DX l at_ o nx)∧(o.length≤6*(nx-at_)+1))) (Td:∀(la:aP) (l:List Tk) (lc:Nat) (cT:Int) (at_:Nat) (w:World) (rl:bz dC w (.slice la l.length lc) l) (ef:cT=((at_:Nat):Int)) (hl:l.length≤1000) (hg:dG l) (PU:(l.getD at_ c6).kind=1∨(l.getD at_ c6).kind=3∨(l.getD at_ c6).kind=6∨(l.getD at_ c6).kind=7) (ha:at_<l.length) (cF:3*(l.length-at_)<N),Calls Tryz.prog 139 #[.slice la l.length lc,ai cT] w (aX fun v w'=>∃a2 c2,∃o:List Nd,∃nx,v= .tuple #[.slice a2 o.length c2,b7 nx]∧ax w [] w' [ag aJ (.slice a2 o.length c2) 89 o]∧(dF l at_ o nx)∧(o.length+3≤6*(nx-at_))∧(nx<l.length→¬(l.getD nx c6).kind=5))):
 Calls Tryz.prog 95 #[.slice la l.length lc,ai cT] w (aX fun v w'=>∃a2 c2,∃o:List Nd,∃nx,v= .tuple #[.slice a2 o.length c2,b7 nx]∧ax w [] w' [ag aJ (.slice a2 o.length c2) 89 o]∧(DX l at_ o nx)∧(o.length≤6*(nx-at_)+1)):=by
 subst ef
 have eI:=rl.le
 refine cH Tryz.func95 (h:=fun H0=>?_)
 have H1:=H0.nr aJ 89
 refine dA 24 [8,7,6,5,4,0] (fun B R L m e v=>∃x:List Nd,∃xa xc,∃i mn,e=(8,b7 i)::(7,ai mn)::(6,.slice xa x.length xc)::B∧av w L v ([ag aJ (.slice xa x.length xc) 89 x]::R)∧(A8 l at_ x mn i)∧(at_≤i∧i≤l.length∧0≤mn∧mn≤(i:Int)-at_)∧(mn≠0→i<l.length→¬(l.getD i c6).kind=5)∧(x.length≤6*(i-at_))∧m=l.length-i) (i:=⟨([]:List Nd),none,0,at_,0,rfl,H1,(by exact A8.start l ha),oz,(by intro h9;exact absurd rfl h9),(by simp),rfl⟩) (h:=?_)
 rintro m1 Γ1 w1 ⟨x,xa,xc,i,mn,rfl,H2,hB,hi,acC,hz,rfl⟩
 refine b9 8 16 (fun g59=>?_) fun g59=>?_
 refine ab 2 (h:=jb i (rl.at H2) (k:=ab 0 (h:=j4 (rl.at H2) (k:=ab 0 (h:=nu (rl.at H2) (k:=b9 3 24 (fun adm=>?_) fun adm=>?_))))))
 refine ab 2 (h:=jb i (rl.at H2) (k:=ab 0 (h:=j4 (rl.at H2) (k:=ab 0 (h:=nu (rl.at H2) (k:=aC 4 (fun Y7=>?_) fun Y7=>?_))))))
 have hk5:(l.getD i c6).kind=5→(dE l i).fh=false:=fun h9=>by
      by_cases hm:mn=0
      · have h8:=(hB.2.2.2.1 hm).2;rw [h8];exact vW
      · exact absurd h9 (acC hm oz)
 refine ab 7 (h:=aA (c:=Td la l lc _ i w1 (rl.at H2) oz hl hg (Jy hg oz qI qI hk5) oz oz) (k:=?_))
 rintro _ w2 ⟨bH,b6,nq,eB,rfl,u1,mL,Ts,XM⟩
 have H3:Uu2:=(H2.iZ u1).re rfl
 refine cv 7 [10,9,30,29,28,27,26,25,22,21,20,19,18,17,7,6,5,4,0] (h:=?_)
 have XA:=mL.1
 have Xz:=mL.2.1
 refine ab 4 (h:=kJ H3 0 (H3.rt 1) (hb:=dD) (kW:=dD) (k:=fun a1 c1 w3 Gk=>?_))
 have H4:=Gk.no
 refine ab 6 (h:=aV (k:=aC 10 (fun D9=>?_) fun D9=>?_))
 refine ab 2 (h:=cu (us:=[ai 5,aj Bs.zero.w0,aj Bs.zero.w1,aj Bs.zero.w2,aj Bs.zero.w3,ai 0,ai 0]) (k:=ab 0 (h:=dL aJ ([(⟨5,Bs.zero,0,0⟩:Nd)]:List Nd) H4 (k:=fun w4 H5=>ab 0 (h:=kJ H5 0 (H5.rt 2) (hb:=dD) (kW:=dD) (k:=fun a2 c2 w5 Vj=>?_))))))
 have H6:=(Vj.drop 2).no
 exact cm 8 (h:=by exact ⟨(x++nq)++([(⟨5,Bs.zero,0,0⟩:Nd)]:List Nd),a2,c2,eB,mn+1,rfl,(H6.pm [0] rfl rfl),(by have h9:=hB.step mL;first|(rw [if_pos D9] at h9;exact h9)|(rw [if_neg D9] at h9;exact h9)),(by have h9:=mL.1;have h8:=mL.2.1;omega),(by exact fun _=>XM),(by have h9:=mL.1;have h8:=mL.2.1;(try simp only [List.length_append,List.length_singleton]);omega),rfl⟩)
 exact cm 7 (h:=by exact ⟨x++nq,a1,c1,eB,mn+1,rfl,(H4.pm [0] rfl rfl),(by have h9:=hB.step mL;first|(rw [if_pos D9] at h9;exact h9)|(rw [if_neg D9] at h9;exact h9)),(by have h9:=mL.1;have h8:=mL.2.1;omega),(by exact fun _=>XM),(by have h9:=mL.1;have h8:=mL.2.1;(try simp only [List.length_append,List.length_singleton]);omega),rfl⟩)
 refine aC 9 (fun Ga=>?_) fun Ga=>?_
 exact ab 2 (h:=cu (us:=[ai 2,aj Bs.zero.w0,aj Bs.zero.w1,aj Bs.zero.w2,aj Bs.zero.w3,ai 0,ai 0]) (k:=ab 0 (h:=dL aJ ([(⟨2,Bs.zero,0,0⟩:Nd)]:List Nd) H2 (k:=fun w6 H7=>cv 5 [5,4] (h:=gh 1 (h:=⟨(some ⟨w1.heap.size,0,none⟩),([(⟨2,Bs.zero,0,0⟩:Nd)]:List Nd).length,([(⟨2,Bs.zero,0,0⟩:Nd)]:List Nd),i,rfl,H7.kM 1,(hB.fin (fun h9=>by omega) (by rw [if_pos Ga];rfl)),(by simp)⟩))))))
 exact gh 11 (h:=⟨xa,xc,x,i,rfl,H2.kM 0,(hB.fin (fun h9=>by omega) (by rw [if_neg Ga])),oz⟩)
 refine aC 19 (fun Ga=>?_) fun Ga=>?_
 exact ab 2 (h:=cu (us:=[ai 2,aj Bs.zero.w0,aj Bs.zero.w1,aj Bs.zero.w2,aj Bs.zero.w3,ai 0,ai 0]) (k:=ab 0 (h:=dL aJ ([(⟨2,Bs.zero,0,0⟩:Nd)]:List Nd) H2 (k:=fun w7 H8=>cv 5 [5,4] (h:=gh 1 (h:=⟨(some ⟨w1.heap.size,0,none⟩),([(⟨2,Bs.zero,0,0⟩:Nd)]:List Nd).length,([(⟨2,Bs.zero,0,0⟩:Nd)]:List Nd),i,rfl,H8.kM 1,(hB.fin (fun h9=>by omega) (by rw [if_pos Ga];rfl)),(by simp)⟩))))))
 exact gh 11 (h:=⟨xa,xc,x,i,rfl,H2.kM 0,(hB.fin (fun h9=>by omega) (by rw [if_neg Ga])),oz⟩)
 refine aC 27 (fun Ga=>?_) fun Ga=>?_
 exact ab 2 (h:=cu (us:=[ai 2,aj Bs.zero.w0,aj Bs.zero.w1,aj Bs.zero.w2,aj Bs.zero.w3,ai 0,ai 0]) (k:=ab 0 (h:=dL aJ ([(⟨2,Bs.zero,0,0⟩:Nd)]:List Nd) H2 (k:=fun w8 H9=>cv 5 [5,4] (h:=gh 1 (h:=⟨(some ⟨w1.heap.size,0,none⟩),([(⟨2,Bs.zero,0,0⟩:Nd)]:List Nd).length,([(⟨2,Bs.zero,0,0⟩:Nd)]:List Nd),i,rfl,H9.kM 1,(hB.fin (fun h9=>by omega) (by rw [if_pos Ga];rfl)),(by simp)⟩))))))
 exact gh 11 (h:=⟨xa,xc,x,i,rfl,H2.kM 0,(hB.fin (fun h9=>by omega) (by rw [if_neg Ga])),oz⟩)
theorem vl (la:aP) (l:List Tk) (lc:Nat) (cT:Int) (at_:Nat) (N:Nat) (w:World) (rl:cP dC w la l lc) (ef:cT=((at_:Nat):Int)) (hl:l.length≤1000) (hg:dG l) (PU:(l.getD at_ c6).kind=1∨(l.getD at_ c6).kind=3∨(l.getD at_ c6).kind=6∨(l.getD at_ c6).kind=7) (ha:at_<l.length) (hN:3*(l.length-at_)<N+1) (Aj:∀(la:aP) (l:List Tk) (lc:Nat) (cT:Int) (at_:Nat) (w:World) (rl:cP dC w la l lc) (ef:cT=((at_:Nat):Int)) (hl:l.length≤1000) (hg:dG l) (vW:(dE l at_).fh=false) (ha:at_≤l.length) (cF:3*(l.length-at_)+2<N),Calls Tryz.prog 78 #[aH la l lc,ai cT] w (aX fun v w'=>∃a2 c2,∃o:List Nd,∃nx,v= .tuple #[aH a2 o c2,b7 nx]∧ax w [] w' [cE aJ 89 a2 o c2]∧(rY l at_ o nx)∧(o.length≤6*(nx-at_)+1))) (Hm:∀(la:aP) (l:List Tk) (lc:Nat) (cT:Int) (at_:Nat) (w:World) (rl:cP dC w la l lc) (ef:cT=((at_:Nat):Int)) (hl:l.length≤1000) (hg:dG l) (vW:(dE l at_).fh=false) (ha:at_≤l.length) (cF:3*(l.length-at_)+1<N),Calls Tryz.prog 95 #[aH la l lc,ai cT] w (aX fun v w'=>∃a2 c2,∃o:List Nd,∃nx,v= .tuple #[aH a2 o c2,b7 nx]∧ax w [] w' [cE aJ 89 a2 o c2]∧(DX l at_ o nx)∧(o.length≤6*(nx-at_)+1))) (Td:∀(la:aP) (l:List Tk) (lc:Nat) (cT:Int) (at_:Nat) (w:World) (rl:cP dC w la l lc) (ef:cT=((at_:Nat):Int)) (hl:l.length≤1000) (hg:dG l) (PU:(l.getD at_ c6).kind=1∨(l.getD at_ c6).kind=3∨(l.getD at_ c6).kind=6∨(l.getD at_ c6).kind=7) (ha:at_<l.length) (cF:3*(l.length-at_)<N),Calls Tryz.prog 139 #[aH la l lc,ai cT] w (aX fun v w'=>∃a2 c2,∃o:List Nd,∃nx,v= .tuple #[aH a2 o c2,b7 nx]∧ax w [] w' [cE aJ 89 a2 o c2]∧(dF l at_ o nx)∧(o.length+3≤6*(nx-at_))∧(nx<l.length→¬(l.getD nx c6).kind=5))):
 Calls Tryz.prog 139 #[aH la l lc,ai cT] w (aX fun v w'=>∃a2 c2,∃o:List Nd,∃nx,v= .tuple #[aH a2 o c2,b7 nx]∧ax w [] w' [cE aJ 89 a2 o c2]∧(dF l at_ o nx)∧(o.length+3≤6*(nx-at_))∧(nx<l.length→¬(l.getD nx c6).kind=5)):=by
 subst ef
 have eI:=rl.le
 refine cH Tryz.func139 (h:=fun H0=>ab 14 (h:=aV (k:=?_)))
 have H1:=H0.nr aJ 89
 refine o9 3 [5,4,0] 1 H1 (fun B R L e v=>∃x:List Nd,∃xa xc i,e=(7,b7 i)::(6,aH xa x xc)::B∧av w L v ([cE aJ 89 xa x xc]::R)∧(dF l at_ x i)∧(x.length+3≤6*(i-at_))) ?_ ?_
 refine ab 4 (h:=jb at_ (rl.at H1) (k:=ab 0 (h:=j4 (rl.at H1) (k:=ab 0 (h:=nu (rl.at H1) (k:=aC 9 (fun UE=>?_) fun UE=>?_))))))
 refine ab 3 (h:=jb at_ (rl.at H1) (k:=ab 0 (h:=j4 (rl.at H1) (k:=?_))))
 exact aN 0 rfl (u0 at_ c6 (T:=dC) (us:=[_,_,_,_]) rfl rfl rfl Tryz.underlying87 rfl Sw rfl (rl.at H1) oz rfl (ab 0 (h:=cu (k:=ab 0 (h:=dL aJ ([(⟨1,(l.getD at_ c6).set,0,0⟩:Nd)]:List Nd) H1 (k:=fun w1 H2=>cA 3 (h:=by exact ⟨([(⟨1,(l.getD at_ c6).set,0,0⟩:Nd)]:List Nd),(some ⟨w.heap.size,0,none⟩),([(⟨1,(l.getD at_ c6).set,0,0⟩:Nd)]:List Nd).length,at_+1,rfl,(H2.pm [1] rfl rfl),(by first|exact dF.leaf hg ha (.inl ⟨UE,rfl⟩)|exact dF.leaf hg ha (.inr (.inl ⟨Kc,rfl⟩))|exact dF.leaf hg ha (.inr (.inr ⟨NO,rfl⟩))|exact (dF.group hg ha oz mL).2),(by first|(simp only [List.length_singleton];omega)|(have h9:=mL.1;omega))⟩)))))))
 refine aC 6 (fun Kc=>?_) fun Kc=>?_
 exact ab 1 (h:=cu (us:=[ai 3,aj Bs.zero.w0,aj Bs.zero.w1,aj Bs.zero.w2,aj Bs.zero.w3,ai 0,ai 0]) (k:=ab 0 (h:=dL aJ ([(⟨3,Bs.zero,0,0⟩:Nd)]:List Nd) H1 (k:=fun w2 H3=>cA 3 (h:=by exact ⟨([(⟨3,Bs.zero,0,0⟩:Nd)]:List Nd),(some ⟨w.heap.size,0,none⟩),([(⟨3,Bs.zero,0,0⟩:Nd)]:List Nd).length,at_+1,rfl,(H3.pm [1] rfl rfl),(by first|exact dF.leaf hg ha (.inl ⟨UE,rfl⟩)|exact dF.leaf hg ha (.inr (.inl ⟨Kc,rfl⟩))|exact dF.leaf hg ha (.inr (.inr ⟨NO,rfl⟩))|exact (dF.group hg ha oz mL).2),(by first|(simp only [List.length_singleton];omega)|(have h9:=mL.1;omega))⟩)))))
 refine aC 6 (fun NO=>?_) fun NO=>?_
 exact ab 1 (h:=cu (us:=[ai 4,aj Bs.zero.w0,aj Bs.zero.w1,aj Bs.zero.w2,aj Bs.zero.w3,ai 0,ai 0]) (k:=ab 0 (h:=dL aJ ([(⟨4,Bs.zero,0,0⟩:Nd)]:List Nd) H1 (k:=fun w3 H4=>cA 3 (h:=by exact ⟨([(⟨4,Bs.zero,0,0⟩:Nd)]:List Nd),(some ⟨w.heap.size,0,none⟩),([(⟨4,Bs.zero,0,0⟩:Nd)]:List Nd).length,at_+1,rfl,(H4.pm [1] rfl rfl),(by first|exact dF.leaf hg ha (.inl ⟨UE,rfl⟩)|exact dF.leaf hg ha (.inr (.inl ⟨Kc,rfl⟩))|exact dF.leaf hg ha (.inr (.inr ⟨NO,rfl⟩))|exact (dF.group hg ha oz mL).2),(by first|(simp only [List.length_singleton];omega)|(have h9:=mL.1;omega))⟩)))))
 refine ab 4 (h:=aV (k:=ab 0 (h:=aA (c:=Aj la l lc _ (at_+1) w (rl.at H1) oz hl hg (by first|exact vW|exact lL hg oz (.inr (by assumption))|exact lL hg oz (.inl oz)) oz oz) (k:=?_))))
 rintro _ w4 ⟨bH,b6,nq,eB,rfl,u4,mL,Ts⟩
 have H5:=H1.ns u4
 have XA:=mL.1
 have Xz:=mL.2.1
 have XA:=mL.1
 have Xz:=mL.2.1
 exact ab 15 (h:=aV (k:=cA 3 (h:=by exact ⟨nq,bH,b6,eB+1,rfl,(H5.pm [1] rfl rfl),(by first|exact dF.leaf hg ha (.inl ⟨UE,rfl⟩)|exact dF.leaf hg ha (.inr (.inl ⟨Kc,rfl⟩))|exact dF.leaf hg ha (.inr (.inr ⟨NO,rfl⟩))|exact (dF.group hg ha oz mL).2),(by first|(simp only [List.length_singleton];omega)|(have h9:=mL.1;omega))⟩)))
 rintro Γ1 w5 ⟨x,xa,xc,i,rfl,H6,hP,hz⟩
 refine dA 2 [7,6,5,4,0] (fun B R L m e v=>∃x2:List Nd,∃V3 V2 i2,e=(7,b7 i2)::(6,aH V3 x2 V2)::B∧av w L v ([cE aJ 89 V3 x2 V2]::R)∧(dF l at_ x2 i2)∧(i2≤l.length)∧(x2.length+3≤6*(i2-at_))∧m=l.length-i2) (i:=⟨x,xa,xc,i,rfl,H6,qI,(by exact hP.2.1),qI,rfl⟩) (h:=?_)
 rintro m1 Γ2 w6 ⟨x2,V3,V2,i2,rfl,H7,Av,xm,Te,rfl⟩
 refine b9 8 48 (fun g90=>?_) fun g90=>?_
 refine ab 2 (h:=jb i2 (rl.at H7) (k:=ab 0 (h:=j4 (rl.at H7) (k:=ab 0 (h:=nu (rl.at H7) (k:=aC 4 (fun QE=>?_) fun QE=>?_))))))
 refine fI 4 H7 (h:=fun w7 H8=>cp 3 3 (rl.at H8) (D:=fun _ hC=>jb i2 hC) (h:=cp 0 4 (rl.at H8) (D:=fun _ hC=>j4 hC) (h:=cp 0 5 (rl.at H8) (D:=fun _ hC=>nu hC) (h:=cp 2 8 (rl.at H8) (D:=fun _ hC=>jb i2 hC) (h:=cp 0 9 (rl.at H8) (D:=fun _ hC=>j4 hC) (h:=cp 0 10 (rl.at H8) (D:=fun _ hC=>nu hC) (h:=gk 0 11 (D:=fun _=>cu (us:=[ai 7,aj Bs.zero.w0,aj Bs.zero.w1,aj Bs.zero.w2,aj Bs.zero.w3,ai ((l.getD i2 c6).lo),ai ((l.getD i2 c6).hi)])) (h:=dj 0 12 (D:=dL aJ ([(⟨7,Bs.zero,(l.getD i2 c6).lo,(l.getD i2 c6).hi⟩:Nd)]:List Nd) H8 (k:=fun w8 H9=>?_))))))))))
 refine ⟨⟨trivial,trivial⟩,?_⟩
 refine dj 0 13 (D:=kJ H9 0 (H9.rt 1) (hb:=dD) (kW:=dD) (k:=fun a1 c1 w9 Vp=>?_))
 have bW:=(Vp.drop 1).no
 refine ⟨trivial,?_⟩
 exact cv 3 [6,54,53,52,51,50,49,7,5,4,0] (h:=ab 2 (h:=aV (k:=cm 3 (h:=by exact ⟨x2++([(⟨7,Bs.zero,(l.getD i2 c6).lo,(l.getD i2 c6).hi⟩:Nd)]:List Nd),a1,c1,i2+1,rfl,(bW.re rfl),(by exact Av.rep hg oz (by assumption)),oz,(by simp only [List.length_append,List.length_singleton];have h9:=Av.1;omega),rfl⟩))))
 exact gh 11 (h:=⟨V3,V2,x2,i2,rfl,H7.kM 0,Av,oz,(fun h9=>by first|omega|assumption)⟩)
 exact gh 21 (h:=⟨V3,V2,x2,i2,rfl,H7.kM 0,Av,oz,(fun h9=>by first|omega|assumption)⟩)
theorem ub (N:Nat):(∀(la:aP) (l:List Tk) (lc:Nat) (cT:Int) (at_:Nat) (w:World) (rl:cP dC w la l lc) (ef:cT=((at_:Nat):Int)) (hl:l.length≤1000) (hg:dG l) (vW:(dE l at_).fh=false) (ha:at_≤l.length) (cF:3*(l.length-at_)+2<N),Calls Tryz.prog 78 #[aH la l lc,ai cT] w (aX fun v w'=>∃a2 c2,∃o:List Nd,∃nx,v= .tuple #[aH a2 o c2,b7 nx]∧ax w [] w' [cE aJ 89 a2 o c2]∧(rY l at_ o nx)∧(o.length≤6*(nx-at_)+1)))∧(∀(la:aP) (l:List Tk) (lc:Nat) (cT:Int) (at_:Nat) (w:World) (rl:cP dC w la l lc) (ef:cT=((at_:Nat):Int)) (hl:l.length≤1000) (hg:dG l) (vW:(dE l at_).fh=false) (ha:at_≤l.length) (cF:3*(l.length-at_)+1<N),Calls Tryz.prog 95 #[aH la l lc,ai cT] w (aX fun v w'=>∃a2 c2,∃o:List Nd,∃nx,v= .tuple #[aH a2 o c2,b7 nx]∧ax w [] w' [cE aJ 89 a2 o c2]∧(DX l at_ o nx)∧(o.length≤6*(nx-at_)+1)))∧(∀(la:aP) (l:List Tk) (lc:Nat) (cT:Int) (at_:Nat) (w:World) (rl:cP dC w la l lc) (ef:cT=((at_:Nat):Int)) (hl:l.length≤1000) (hg:dG l) (PU:(l.getD at_ c6).kind=1∨(l.getD at_ c6).kind=3∨(l.getD at_ c6).kind=6∨(l.getD at_ c6).kind=7) (ha:at_<l.length) (cF:3*(l.length-at_)<N),Calls Tryz.prog 139 #[aH la l lc,ai cT] w (aX fun v w'=>∃a2 c2,∃o:List Nd,∃nx,v= .tuple #[aH a2 o c2,b7 nx]∧ax w [] w' [cE aJ 89 a2 o c2]∧(dF l at_ o nx)∧(o.length+3≤6*(nx-at_))∧(nx<l.length→¬(l.getD nx c6).kind=5))):=by
 induction N with
 | zero=>exact ⟨(by intro la l lc cT at_ w rl ef hl hg vW ha cF;omega),(by intro la l lc cT at_ w rl ef hl hg vW ha cF;omega),(by intro la l lc cT at_ w rl ef hl hg PU ha cF;omega)⟩
 | succ N ih=>
 obtain ⟨Aj,Hm,Td⟩:=ih
 exact ⟨(by intro la l lc cT at_ w rl ef hl hg vW ha cF;exact sj la l lc cT at_ N w rl ef hl hg vW ha cF Aj Hm Td),(by intro la l lc cT at_ w rl ef hl hg vW ha cF;exact sk la l lc cT at_ N w rl ef hl hg vW ha cF Aj Hm Td),(by intro la l lc cT at_ w rl ef hl hg PU ha cF;exact vl la l lc cT at_ N w rl ef hl hg PU ha cF Aj Hm Td)⟩
theorem BZ (la:aP) (l:List Tk) (lc:Nat) (cT:Int) (at_:Nat) (w:World) (rl:cP dC w la l lc) (ef:cT=((at_:Nat):Int)) (hl:l.length≤1000) (hg:dG l) (vW:(dE l at_).fh=false) (ha:at_≤l.length):
 Calls Tryz.prog 78 #[aH la l lc,ai cT] w (aX fun v w'=>∃a2 c2,∃o:List Nd,∃nx,v= .tuple #[aH a2 o c2,b7 nx]∧ax w [] w' [cE aJ 89 a2 o c2]∧(rY l at_ o nx)∧(o.length≤6*(nx-at_)+1)):=(ub (3*(l.length-at_)+2+1)).1 la l lc cT at_ w rl ef hl hg vW ha oz
theorem O7 (la:aP) (l:List Tk) (lc:Nat) (end_:Int) (w:World) (rl:cP dC w la l lc) (hl:l.length≤1000):
 Calls Tryz.prog 50 #[aH la l lc,ai end_] w (aX fun v w'=>∃a2 c2,∃n2:Nat,∃o:List Nd,∃at_ er,v= .tuple #[.slice a2 n2 c2,ai at_,ai er]∧ax w [] w' [ag aJ (.slice a2 n2 c2) 89 o]∧(DT l end_ o at_ er)):=by
 have eI:=rl.le
 refine cH Tryz.func50 (h:=fun H0=>ab 10 (h:=aA (c:=Et la l lc w (rl.at H0) oz) (k:=?_)))
 rintro _ w1 ⟨ag8,adV,afx,rfl,u1,PH⟩
 have H1:=H0.call u1
 refine aC 16 (fun lB=>?_) fun lB=>?_
 obtain ⟨kw,hkw,OD,Hz⟩:=Sl PH oz
 exact fI 1 H1 (h:=fun w2 H2=>cp 2 2 (rl.at H2) (D:=fun _ hC=>jb kw hC (cD:=oz)) (h:=cp 0 3 (rl.at H2) (D:=fun _ hC=>j4 hC) (h:=cp 0 4 (rl.at H2) (D:=fun _ hC=>nu hC) (h:=mA 7 (h:=⟨none,0,0,[],(l.getD kw c6).pos,adV,rfl,eC H2,(Hz end_)⟩)))))
 refine aC 9 (fun N3=>?_) fun N3=>?_
 exact mA 9 (h:=⟨none,0,0,[],end_,3,rfl,eC H1,(OK PH oz oz end_)⟩)
 have hG:dG l:=(OL PH oz oz)
 refine ab 5 (h:=aA (c:=BZ la l lc _ 0 w1 (rl.at H1) oz oz hG rfl oz) (k:=?_))
 rintro _ w3 ⟨bH,b6,nq,eB,rfl,u2,mL,Ts⟩
 have H3:=H1.ns u2
 have jv:=rY.all hG mL
 refine aC 15 (fun aez=>?_) fun aez=>?_
 exact mA 8 (h:=⟨none,0,0,[],0,4,rfl,eC H3,(Pg hG jv.2 oz end_)⟩)
 exact mA 11 (h:=⟨bH,b6,nq.length,nq,0,0,rfl,H3.kM 0,(W9 hG jv.2 oz end_)⟩)
end Go.Proofs.YtpbgmkhmdbchpaaGreatDoor
namespace Go.Sx
theorem Gx {p:Prop} (h:p:=by first|omega|(simp;omega)):p:=h
end Go.Sx
namespace Go.Proofs.YtpbgmkhmdbchpaaGreatDoor
open Go Go.Sx
theorem gD (WT:Int) (q1:Nat) (WS:Int) (q2:Nat) (w:World) (Ug:WT=((q1:Nat):Int)) (Uf:WS=((q2:Nat):Int)) (Ao:q1<256) (JP:q2<256):
 Calls Tryz.prog 86 #[ai WT,ai WS] w (aX fun v w'=>v= .agg #[aj (bG q1 q2).w0,aj (bG q1 q2).w1,aj (bG q1 q2).w2,aj (bG q1 q2).w3]∧ax w [] w' []):=by
 subst Ug
 subst Uf
 refine cH Tryz.func86 (h:=fun H0=>ab 2 (h:=dB H0 (k:=fun w1 H1=>ab 4 (h:=dB H1 (k:=fun w2 H2=>?_)))))
 have H3:=H2.ps [1,0]
 refine dA 10 [6,5,4,1] (fun B R L m e v=>∃c,∃r:Bs,e=(6,b7 c)::B∧av w L v ([aQ w1.heap.size #[aj r.w0,aj r.w1,aj r.w2,aj r.w3] 87]::R)∧(q1≤c∧(c≤q2+1∨c=q1))∧(r=(List.range' q1 (c-q1)).foldl jy Bs.zero)∧m=q2+1-c) (i:=⟨q1,Bs.zero,rfl,H3,om,(by simp),rfl⟩) (h:=?_)
 rintro m1 Γ1 w3 ⟨c,r,rfl,H4,hc,hr,rfl⟩
 refine aC 8 (fun lz=>?_) fun lz=>?_
 refine ab 5 (h:=cd (H4.b 0) (k:=ab 1 (h:=aA (c:=n6 r _ c w3 oz oz) (k:=?_))))
 rintro _ w4 ⟨rfl,u3⟩
 have H5:=H4.call u3
 exact aY 0 (h:=bL H5 0 (k:=fun w5 H6=>ab 5 (h:=aV (k:=cm 2 (h:=by exact ⟨c+1,(jy r c),rfl,H6,om,(by rw [show c+1-q1=(c-q1)+1 by omega,vp,←hr,show q1+(c-q1)=c by omega]),rfl⟩)))))
 refine ab 4 (h:=cd (H4.b 0) (k:=aY 0 (h:=bL H4 1 (k:=fun w6 H7=>pO 3 (h1:=cS (H7.b 1)) (h:=?_)))))
 have e:r=bG q1 q2:=by rw [hr];unfold bG;rw [show c-q1=q2+1-q1 by omega]
 exact ⟨(by rw [e]),H7.af⟩
theorem I3 (a:Bs) (b:Bs) (w:World):
 Calls Tryz.prog 136 #[.agg #[aj a.w0,aj a.w1,aj a.w2,aj a.w3],.agg #[aj b.w0,aj b.w1,aj b.w2,aj b.w3],ai 0] w (aX fun v w'=>v= .agg #[aj (qV a b).w0,aj (qV a b).w1,aj (qV a b).w2,aj (qV a b).w3]∧ax w [] w' []):=by
 refine cH Tryz.func136 (h:=fun H0=>ab 2 (h:=jf H0 (k:=fun w1 H1=>ab 0 (h:=jf H1 (k:=fun w2 H2=>ab 0 (h:=dB H2 (k:=fun w3 H3=>ab 4 (h:=dB H3 (k:=fun w4 H4=>?_)))))))))
 have H5:=H4.ps [3,0,1,2]
 refine dA 9 [8,7,6,4,3,2] (fun B R L m e v=>∃k,∃r:Bs,e=(8,b7 k)::B∧av w L v ([aQ w3.heap.size #[aj r.w0,aj r.w1,aj r.w2,aj r.w3] 87]::R)∧(k≤256)∧(∀x,x<256→r.has x=(decide (x<k)&&(a.has x||b.has x)))∧m=256-k) (i:=⟨0,Bs.zero,rfl,H5,om,(by intro x hx;rw [dz];simp),rfl⟩) (h:=?_)
 rintro m1 Γ1 w5 ⟨k,r,rfl,H6,hk,hr,rfl⟩
 refine aC 7 (fun c29=>?_) fun c29=>?_
 refine fI 5 H6 (h:=fun w6 H7=>c7 0 0 (H7.b 1) (D:=fun _ hC=>cd hC) (h:=c7 1 3 (H7.b 2) (D:=fun _ hC=>cd hC) (h:=dj 1 2 (D:=aA (c:=lQ a k w6 oz) (k:=?_)))))
 rintro _ w7 ⟨rfl,u5⟩
 have H8:=H7.call u5
 refine ⟨⟨trivial,(H8.b 2),trivial⟩,?_⟩
 refine dj 0 5 (D:=aA (c:=lQ b k w7 oz) (k:=?_))
 rintro _ w8 ⟨rfl,u6⟩
 have H9:=H8.call u6
 refine ⟨trivial,?_⟩
 refine o9 4 [8,7,6,4,3,2] 0 H9 (fun B R L e v=>∃q:Bool,e=(49,.bool q)::B∧av w L v (R)∧(q=(a.has k||b.has k))) ?_ ?_
 refine iX 6 25 (fun M0=>?_) fun M0=>?_
 exact cA 25 (h:=by exact ⟨true,rfl,H9,(by simp_all)⟩)
 refine iX 4 29 (fun FF=>?_) fun FF=>?_
 exact cA 21 (h:=by exact ⟨true,rfl,H9,(by simp_all)⟩)
 exact cA 21 (h:=by exact ⟨false,rfl,H9,(by simp_all)⟩)
 rintro Γ2 w9 ⟨q,rfl,bW,hq⟩
 refine dv 0 (fun Bg=>?_) fun Bg=>?_
 refine ab 1 (h:=cd (bW.b 0) (k:=ab 1 (h:=aA (c:=n6 r _ k w9 oz oz) (k:=?_))))
 rintro _ iy ⟨rfl,u7⟩
 have bP:=bW.call u7
 exact aY 0 (h:=bL bP 0 (k:=fun gS ck=>ab 5 (h:=aV (k:=cm 2 (h:=by exact ⟨k+1,(jy r k),rfl,ck,om,(by first|exact kS (p:=fun x=>a.has x||b.has x) oz (by rw [←hq];exact Bg) hr|exact nZ (p:=fun x=>a.has x||b.has x) (by rw [←hq];simpa using Bg) hr),rfl⟩)))))
 exact ab 5 (h:=aV (k:=cm 2 (h:=by exact ⟨k+1,r,rfl,bW,om,(by first|exact kS (p:=fun x=>a.has x||b.has x) oz (by rw [←hq];exact Bg) hr|exact nZ (p:=fun x=>a.has x||b.has x) (by rw [←hq];simpa using Bg) hr),rfl⟩)))
 refine ab 4 (h:=cd (H6.b 0) (k:=aY 0 (h:=bL H6 3 (k:=fun jz cU=>pO 3 (h1:=cS (cU.b 3)) (h:=?_)))))
 have e:r=qV a b:=Bs.rI fun x hx=>by rw [hr x hx,decide_eq_true oz,Bool.true_and,HC a b hx]
 exact ⟨(by rw [e]),cU.af⟩
theorem I2 (a:Bs) (b:Bs) (w:World):
 Calls Tryz.prog 136 #[.agg #[aj a.w0,aj a.w1,aj a.w2,aj a.w3],.agg #[aj b.w0,aj b.w1,aj b.w2,aj b.w3],ai 2] w (aX fun v w'=>v= .agg #[aj (cJ (fun x=>a.has x&& !b.has x)).w0,aj (cJ (fun x=>a.has x&& !b.has x)).w1,aj (cJ (fun x=>a.has x&& !b.has x)).w2,aj (cJ (fun x=>a.has x&& !b.has x)).w3]∧ax w [] w' []):=by
 refine cH Tryz.func136 (h:=fun H0=>ab 2 (h:=jf H0 (k:=fun w1 H1=>ab 0 (h:=jf H1 (k:=fun w2 H2=>ab 0 (h:=dB H2 (k:=fun w3 H3=>ab 4 (h:=dB H3 (k:=fun w4 H4=>?_)))))))))
 have H5:=H4.ps [3,0,1,2]
 refine dA 9 [8,7,6,4,3,2] (fun B R L m e v=>∃k,∃r:Bs,e=(8,b7 k)::B∧av w L v ([aQ w3.heap.size #[aj r.w0,aj r.w1,aj r.w2,aj r.w3] 87]::R)∧(k≤256)∧(∀x,x<256→r.has x=(decide (x<k)&&(a.has x&& !b.has x)))∧m=256-k) (i:=⟨0,Bs.zero,rfl,H5,om,(by intro x hx;rw [dz];simp),rfl⟩) (h:=?_)
 rintro m1 Γ1 w5 ⟨k,r,rfl,H6,hk,hr,rfl⟩
 refine aC 7 (fun c29=>?_) fun c29=>?_
 refine fI 5 H6 (h:=fun w6 H7=>c7 0 0 (H7.b 1) (D:=fun _ hC=>cd hC) (h:=c7 1 3 (H7.b 2) (D:=fun _ hC=>cd hC) (h:=dj 1 2 (D:=aA (c:=lQ a k w6 oz) (k:=?_)))))
 rintro _ w7 ⟨rfl,u5⟩
 have H8:=H7.call u5
 refine ⟨⟨trivial,(H8.b 2),trivial⟩,?_⟩
 refine dj 0 5 (D:=aA (c:=lQ b k w7 oz) (k:=?_))
 rintro _ w8 ⟨rfl,u6⟩
 have H9:=H8.call u6
 refine ⟨trivial,?_⟩
 refine o9 4 [8,7,6,4,3,2] 0 H9 (fun B R L e v=>∃q:Bool,e=(49,.bool q)::B∧av w L v (R)∧(q=(a.has k&& !b.has k))) ?_ ?_
 refine iX 26 45 (fun M0=>?_) fun M0=>?_
 exact cA 5 (h:=by exact ⟨!(b.has k),rfl,H9,(by simp_all)⟩)
 exact cA 5 (h:=by exact ⟨false,rfl,H9,(by simp_all)⟩)
 rintro Γ2 w9 ⟨q,rfl,bW,hq⟩
 refine dv 0 (fun Bg=>?_) fun Bg=>?_
 refine ab 1 (h:=cd (bW.b 0) (k:=ab 1 (h:=aA (c:=n6 r _ k w9 oz oz) (k:=?_))))
 rintro _ iy ⟨rfl,u7⟩
 have bP:=bW.call u7
 exact aY 0 (h:=bL bP 0 (k:=fun gS ck=>ab 5 (h:=aV (k:=cm 2 (h:=by exact ⟨k+1,(jy r k),rfl,ck,om,(by first|exact kS (p:=fun x=>a.has x&& !b.has x) oz (by rw [←hq];exact Bg) hr|exact nZ (p:=fun x=>a.has x&& !b.has x) (by rw [←hq];simpa using Bg) hr),rfl⟩)))))
 exact ab 5 (h:=aV (k:=cm 2 (h:=by exact ⟨k+1,r,rfl,bW,om,(by first|exact kS (p:=fun x=>a.has x&& !b.has x) oz (by rw [←hq];exact Bg) hr|exact nZ (p:=fun x=>a.has x&& !b.has x) (by rw [←hq];simpa using Bg) hr),rfl⟩)))
 refine ab 4 (h:=cd (H6.b 0) (k:=aY 0 (h:=bL H6 3 (k:=fun jz cU=>pO 3 (h1:=cS (cU.b 3)) (h:=?_)))))
 have e:r=cJ (fun x=>a.has x&& !b.has x):=Bs.rI fun x hx=>by rw [hr x hx,decide_eq_true oz,Bool.true_and,sM _ hx]
 exact ⟨(by rw [e]),cU.af⟩
theorem BP (a:Bs) (w:World):
 Calls Tryz.prog 94 #[.agg #[aj a.w0,aj a.w1,aj a.w2,aj a.w3]] w (aX fun v w'=>v= .agg #[aj (fF a).w0,aj (fF a).w1,aj (fF a).w2,aj (fF a).w3]∧ax w [] w' []):=by
 refine cH Tryz.func94 (h:=fun H0=>ab 2 (h:=jf H0 (k:=fun w1 H1=>ab 0 (h:=dB H1 (k:=fun w2 H2=>fI 3 H2 (h:=fun w3 H3=>c7 0 1 (H3.b 0) (D:=fun _ hC=>cd hC) (h:=dj 0 0 (D:=aA (c:=gD _ 0 _ 255 w3 oz oz oz oz) (k:=?_)))))))))
 rintro _ w4 ⟨rfl,u3⟩
 have H4:=H3.call u3
 refine ⟨⟨(H4.b 0),trivial⟩,?_⟩
 refine dj 0 2 (D:=aA (c:=I2 (bG 0 255) a w4) (k:=?_))
 rintro _ w5 ⟨rfl,u4⟩
 have H5:=H4.call u4
 refine ⟨trivial,?_⟩
 refine dj 0 3 (D:=bL H5 1 (k:=fun w6 H6=>?_))
 refine ⟨trivial,?_⟩
 refine pO 3 (h1:=cS (H6.b 1)) (h:=?_)
 have e:cJ (fun x=>(bG 0 255).has x&& !a.has x)=fF a:=Bs.rI fun x hx=>by rw [sM _ hx,C0 a hx,we dk hx,decide_eq_true oz,Bool.true_and]
 exact ⟨(by rw [e]),H6.af⟩
theorem EC (s:Bs) (w:World):
 Calls Tryz.prog 168 #[.agg #[aj s.w0,aj s.w1,aj s.w2,aj s.w3]] w (aX fun v w'=>∃a2,∃c2:Nat,v=aH a2 (bj s) c2∧ax w [] w' [cE eM 5 a2 (bj s) c2]):=by
 refine cH Tryz.func168 (h:=fun H0=>ab 2 (h:=jf H0 (k:=fun w1 H1=>?_)))
 have H2:=H1.nr eM 5
 have H3:=H2.ps [1,0]
 refine dA 15 [4,3,2,1] (fun B R L m e v=>∃k,∃o:List Nat,∃a c,e=(4,b7 k)::(3,aH a o c)::B∧av w L v ([cE eM 5 a o c]::R)∧(k≤256)∧(o=(List.range k).filter s.has)∧(o.length≤k)∧m=256-k) (i:=⟨0,([]:List Nat),none,0,rfl,H3,om,rfl,(by simp),rfl⟩) (h:=?_)
 rintro m1 Γ1 w2 ⟨k,o,a,c,rfl,H4,hk,ho,Fx,rfl⟩
 refine aC 7 (fun Zc=>?_) fun Zc=>?_
 refine ab 6 (h:=cd (H4.b 1) (k:=ab 1 (h:=aA (c:=lQ s k w2 oz) (k:=?_))))
 rintro _ w3 ⟨rfl,u2⟩
 have H5:=H4.call u2
 refine dv 2 (fun Bf=>?_) fun Bf=>?_
 refine ab 3 (h:=jd (k:=ab 0 (h:=dL eM [k] H5 (k:=fun w4 H6=>ab 0 (h:=kJ H6 0 (H6.rt 2) (k:=fun a1 c1 w5 Vi=>?_))))))
 have H7:=(Vi.drop 2).no
 exact ab 6 (h:=aV (k:=cm 2 (h:=by exact ⟨k+1,o++[k],a1,c1,rfl,(H7.re rfl),om,(by rw [ho,List.range_succ,List.filter_append];simp [Bf]),Gx,rfl⟩)))
 exact ab 5 (h:=aV (k:=cm 2 (h:=by exact ⟨k+1,o,a,c,rfl,H5,om,(by rw [ho,List.range_succ,List.filter_append];simp [Bf]),Gx,rfl⟩)))
 refine bE 9 (h:=?_)
 have e:o=bj s:=by rw [ho,show k=256 by omega];rfl
 rw [e] at H4
 exact ⟨a,c,(by rw [e]),(by have hh:=H4.kM 0;exact hh)⟩
theorem nX (c:Nat) (w:World) (hc:c<256):
 Calls Tryz.prog 138 #[.int .u8 ((c:Nat):Int)] w (aX fun v w'=>v=ai (dJ c)∧ax w [] w' []):=by
 refine cH Tryz.func138 (h:=fun H0=>b9 11 5 (fun g17=>?_) fun g17=>?_)
 refine aC 5 (fun c17=>?_) fun c17=>?_
 exact aN 3 rfl (ku rfl rfl oz oz (ab 0 (h:=jd (k:=bE 4 (h:=⟨(by unfold dJ;rw [if_pos oz]),H0.af⟩)))))
 refine b9 8 14 (fun g20=>?_) fun g20=>?_
 refine aC 5 (fun lz=>?_) fun lz=>?_
 exact aN 3 rfl (ku rfl rfl oz oz (ab 0 (h:=jd (k:=ab 0 (h:=aV (k:=bE 4 (h:=⟨(by unfold dJ;rw [if_neg oz];rw [if_pos oz]),H0.af⟩)))))))
 refine b9 8 24 (fun g23=>?_) fun g23=>?_
 refine aC 5 (fun sW=>?_) fun sW=>?_
 exact aN 3 rfl (ku rfl rfl oz oz (ab 0 (h:=jd (k:=ab 0 (h:=aV (k:=bE 4 (h:=⟨(by unfold dJ;rw [if_neg oz];rw [if_neg oz];rw [if_pos oz]),H0.af⟩)))))))
 exact bE 8 (h:=⟨(by unfold dJ;rw [if_neg oz];rw [if_neg oz];rw [if_neg oz]),H0.af⟩)
 exact bE 14 (h:=⟨(by unfold dJ;rw [if_neg oz];rw [if_neg oz];rw [if_neg oz]),H0.af⟩)
 refine b9 14 24 (fun g23=>?_) fun g23=>?_
 refine aC 5 (fun sW=>?_) fun sW=>?_
 exact aN 3 rfl (ku rfl rfl oz oz (ab 0 (h:=jd (k:=ab 0 (h:=aV (k:=bE 4 (h:=⟨(by unfold dJ;rw [if_neg oz];rw [if_neg oz];rw [if_pos oz]),H0.af⟩)))))))
 exact bE 8 (h:=⟨(by unfold dJ;rw [if_neg oz];rw [if_neg oz];rw [if_neg oz]),H0.af⟩)
 exact bE 14 (h:=⟨(by unfold dJ;rw [if_neg oz];rw [if_neg oz];rw [if_neg oz]),H0.af⟩)
 refine b9 14 14 (fun g20=>?_) fun g20=>?_
 refine aC 5 (fun lz=>?_) fun lz=>?_
 exact aN 3 rfl (ku rfl rfl oz oz (ab 0 (h:=jd (k:=ab 0 (h:=aV (k:=bE 4 (h:=⟨(by unfold dJ;rw [if_neg oz];rw [if_pos oz]),H0.af⟩)))))))
 refine b9 8 24 (fun g23=>?_) fun g23=>?_
 refine aC 5 (fun sW=>?_) fun sW=>?_
 exact aN 3 rfl (ku rfl rfl oz oz (ab 0 (h:=jd (k:=ab 0 (h:=aV (k:=bE 4 (h:=⟨(by unfold dJ;rw [if_neg oz];rw [if_neg oz];rw [if_pos oz]),H0.af⟩)))))))
 exact bE 8 (h:=⟨(by unfold dJ;rw [if_neg oz];rw [if_neg oz];rw [if_neg oz]),H0.af⟩)
 exact bE 14 (h:=⟨(by unfold dJ;rw [if_neg oz];rw [if_neg oz];rw [if_neg oz]),H0.af⟩)
 refine b9 14 24 (fun g23=>?_) fun g23=>?_
 refine aC 5 (fun sW=>?_) fun sW=>?_
 exact aN 3 rfl (ku rfl rfl oz oz (ab 0 (h:=jd (k:=ab 0 (h:=aV (k:=bE 4 (h:=⟨(by unfold dJ;rw [if_neg oz];rw [if_neg oz];rw [if_pos oz]),H0.af⟩)))))))
 exact bE 8 (h:=⟨(by unfold dJ;rw [if_neg oz];rw [if_neg oz];rw [if_neg oz]),H0.af⟩)
 exact bE 14 (h:=⟨(by unfold dJ;rw [if_neg oz];rw [if_neg oz];rw [if_neg oz]),H0.af⟩)
theorem nT (s:Bs) (nx:Int) (ok:Bool) (nm:Bool) (w:World):
 Calls Tryz.prog 135 #[.agg #[aj s.w0,aj s.w1,aj s.w2,aj s.w3,ai nx,.bool ok,.bool nm]] w (aX fun v w'=>v=ai (iD s nm)∧ax w [] w' []):=by
 refine cH Tryz.func135 (h:=fun H0=>ab 2 (h:=jf H0 (k:=fun w1 H1=>ab 6 (h:=cd (H1.b 0) (k:=ab 0 (h:=aA (c:=EC s w1) (k:=?_)))))))
 rintro _ w2 ⟨bH,b6,rfl,u2⟩
 have H2:=H1.ns u2
 refine ab 7 (h:=aM (H2.b 0) (k:=iX 1 9 (fun VR=>?_) fun VR=>?_))
 refine bE 13 (h:=?_)
 have e:iD s nm= -1:=by unfold iD sv;first|(rw [if_pos VR];done)|rw [if_neg VR,if_neg oz]
 exact ⟨(by rw [e]),H2.af⟩
 refine aC 6 (fun QJ=>?_) fun QJ=>?_
 refine bE 6 (h:=?_)
 have e:iD s nm= -1:=by unfold iD sv;first|(rw [if_pos VR];done)|rw [if_neg VR,if_neg oz]
 exact ⟨(by rw [e]),H2.af⟩
 have PT:=ze (s:=s) oz
 refine ab 5 (h:=cg 0 (H2.rt 1) (k:=ab 0 (h:=cI (H2.rt 1) (k:=ab 0 (h:=jd (h:=(by exact jP PT)) (k:=bE 4 (h:=?_)))))))
 have e:iD s nm=(((bj s).getD 0 0:Nat):Int):=by unfold iD sv;rw [if_neg VR,if_pos oz]
 exact ⟨(by rw [e]),H2.af⟩
theorem Hx (c:Nat) (w:World) (hc:c<256):
 Calls Tryz.prog 143 #[.int .u8 ((c:Nat):Int)] w (aX fun v w'=>v= .tuple #[.int .u8 ((dm c:Nat):Int),.bool (dK c)]∧ax w [] w' []):=by
 refine cH Tryz.func143 (h:=fun H0=>b9 13 7 (fun g25=>?_) fun g25=>?_)
 refine aC 6 (fun Dw=>?_) fun Dw=>?_
 refine aN 3 rfl (ku rfl rfl oz oz (gh 5 (h:=?_)))
 have e:((dm c:Nat):Int)=(c:Int)-48:=by unfold dm;rw [if_pos oz];omega
 have e2:dK c=true:=by unfold dK;rw [decide_eq_true_eq];omega
 exact ⟨(by rw [e,e2]),H0.af⟩
 refine aN 3 rfl (mR (m:=c) oz rfl rfl (b9 2 17 (fun Qb=>?_) fun Qb=>?_))
 refine aN 1 rfl (mR (m:=c) oz rfl rfl (aC 5 (fun Dv=>?_) fun Dv=>?_))
 refine aN 3 rfl (mR (m:=c) oz rfl rfl ?_)
 refine aN 0 rfl (ku rfl rfl oz oz ?_)
 refine aN 0 rfl (k5 _ rfl rfl rfl (gh 5 (h:=?_)))
 have e:((dm c:Nat):Int)=((c|||32:Nat):Int)-97+10:=by unfold dm;rw [if_neg oz,if_pos oz];omega
 have e2:dK c=true:=by unfold dK;rw [decide_eq_true_eq];omega
 exact ⟨(by rw [e,e2,wrap_u8' oz oz]),H0.af⟩
 refine gh 10 (h:=?_)
 have e:dm c=0:=by unfold dm;rw [if_neg oz,if_neg oz]
 have e2:dK c=false:=by unfold dK;rw [decide_eq_false_iff_not];omega
 exact ⟨(by rw [e,e2];rfl),H0.af⟩
 refine gh 18 (h:=?_)
 have e:dm c=0:=by unfold dm;rw [if_neg oz,if_neg oz]
 have e2:dK c=false:=by unfold dK;rw [decide_eq_false_iff_not];omega
 exact ⟨(by rw [e,e2];rfl),H0.af⟩
 refine aN 10 rfl (mR (m:=c) oz rfl rfl (b9 2 17 (fun Qb=>?_) fun Qb=>?_))
 refine aN 1 rfl (mR (m:=c) oz rfl rfl (aC 5 (fun Dv=>?_) fun Dv=>?_))
 refine aN 3 rfl (mR (m:=c) oz rfl rfl ?_)
 refine aN 0 rfl (ku rfl rfl oz oz ?_)
 refine aN 0 rfl (k5 _ rfl rfl rfl (gh 5 (h:=?_)))
 have e:((dm c:Nat):Int)=((c|||32:Nat):Int)-97+10:=by unfold dm;rw [if_neg oz,if_pos oz];omega
 have e2:dK c=true:=by unfold dK;rw [decide_eq_true_eq];omega
 exact ⟨(by rw [e,e2,wrap_u8' oz oz]),H0.af⟩
 refine gh 10 (h:=?_)
 have e:dm c=0:=by unfold dm;rw [if_neg oz,if_neg oz]
 have e2:dK c=false:=by unfold dK;rw [decide_eq_false_iff_not];omega
 exact ⟨(by rw [e,e2];rfl),H0.af⟩
 refine gh 18 (h:=?_)
 have e:dm c=0:=by unfold dm;rw [if_neg oz,if_neg oz]
 have e2:dK c=false:=by unfold dK;rw [decide_eq_false_iff_not];omega
 exact ⟨(by rw [e,e2];rfl),H0.af⟩
theorem sY (c:Nat) (nx:Int) (w:World) (hc:c<256):
 Calls Tryz.prog 144 #[.int .u8 ((c:Nat):Int),ai nx] w (aX fun v w'=>v= .agg #[aj (fZ [c]).w0,aj (fZ [c]).w1,aj (fZ [c]).w2,aj (fZ [c]).w3,b7 c,ai nx]∧ax w [] w' []):=by
 refine cH Tryz.func144 (h:=fun H0=>ab 2 (h:=dB H0 (k:=fun w1 H1=>ab 5 (h:=dL eM [c] H1 (k:=fun w2 H2=>ab 0 (h:=aA (c:=mD _ [c] _ ([c].length) w2 (H2.rt 1) (by intro x hx;simp at hx;omega)) (k:=?_)))))))
 rintro _ w3 ⟨rfl,u3⟩
 have H3:=H2.call u3
 exact ab 1 (h:=jd (k:=ab 1 (h:=cu (k:=aY 0 (h:=bL H3 0 (k:=fun w4 H4=>pO 3 (h1:=cS (H4.b 0)) (h:=⟨rfl,H4.af⟩)))))))
open Go Go.Sx Go.RowKit
structure Laid (w:World):Prop where
  ml:∃m,w.cell? ⟨1,0,none⟩=some (.int .i64 m)
theorem Laid.below {w w':World} (h:Laid w) (b:Below w.heap.size w w'):Laid w':=by
  obtain ⟨m,hm⟩:=h.ml
  have lt:∀ {g:Nat} {v:Value},w.cell? ⟨g,0,none⟩=some v→g<w.heap.size:=fun {g v} hc=>World.block_lt_of_cell? w ⟨g,0,none⟩ hc
  exact ⟨⟨m,(b.cell (lt hm)).trans hm⟩⟩
theorem Laid.at {w w':World} {G:List (List Chunk)} (h:Laid w) (u:av w [] w' G):Laid w':=h.below u.nv.below
theorem Lx {f:FuncId} {args:Array Value} {w:World} {Q:Ending→World→Prop} {R:Value→World→Prop} (h:Calls Tryz.prog f args w Q) (k:∀e w',Q e w'→∃v,e= .returned v∧R v w'):Calls Tryz.prog f args w (aX R):=h.mono k
theorem PM (s:ByteArray) (w:World):Calls Tryz.prog 192 #[.string s,.string ⟨#[91,58]⟩] w (aX fun v w'=>v= .bool (hpN s)∧ax w [] w' []):=by
  refine Lx (Tryz.strings_HasPrefix s ⟨#[91,58]⟩ w) ?_
  rintro e w' ⟨rfl,rfl⟩
  exact ⟨_,rfl,rfl,ax.nil _⟩
theorem NJ (s:ByteArray) (w:World) (lw:Laid w) (hs:s.size≤1000000):Calls Tryz.prog 193 #[.string s,.string ⟨#[58,93]⟩] w (aX fun v w'=>v= .tuple #[.string (mU s),.string (adW s),.bool (NI s)]∧ax w [] w' []):=by
  obtain ⟨m,hm⟩:=lw.ml
  refine Lx (Tryz.strings_Cut s ⟨#[58,93]⟩ m w oz hm) ?_
  rintro e w' ⟨rfl,n,rfl⟩
  exact ⟨_,rfl,rfl,zr ⟨rfl,rfl,rfl,Nat.le_refl _,fun j hj=>rfl⟩⟩
theorem ED (WT:Int) (q1:Nat) (WS:Int) (q2:Nat) (w:World) (Ug:WT=((q1:Nat):Int)) (Uf:WS=((q2:Nat):Int)) (Ao:q1<256) (JP:q2<256):
    Calls Tryz.prog 172 #[.int .u8 WT,.int .u8 WS] w (aX fun v w'=>v= .agg #[.int .u64 (((bG q1 q2).w0.toNat:Nat):Int),.int .u64 (((bG q1 q2).w1.toNat:Nat):Int),.int .u64 (((bG q1 q2).w2.toNat:Nat):Int),.int .u64 (((bG q1 q2).w3.toNat:Nat):Int)]∧ax w [] w' []):=by
  subst Ug;subst Uf;exact yz q1 q2 w Ao JP
theorem HK (p:ByteArray) (aI:Int) (a:Nat) (w:World) (rT:cP eM w (some ⟨0,0,none⟩) qu 64) (uj:aI=((a:Nat):Int)) (hp:p.size≤200) (ha:a<p.size):
 Calls Tryz.prog 99 #[.string p,ai aI] w (aX fun v w'=>∃x:Bs,∃on nx,∃ok:Bool,v= .tuple #[.agg #[aj x.w0,aj x.w1,aj x.w2,aj x.w3,ai on,ai nx],.bool ok]∧ax w [] w' []∧(Is (fo p a) ok (xY (some on) x nx))∧(0≤nx∧nx≤1000∧ -1≤on∧on≤255)):=by
 subst uj
 have jC:=rT.le
 refine cH Tryz.func99 (h:=fun H0=>ab 2 (h:=dB H0 (k:=fun w1 H1=>?_)))
 have JR:=cn p (a+1)
 have xm:=cn p (a+2)
 have P4:=cn p (a+3)
 have KB:=sJ p (a+2)
 have hx3:=sJ p (a+3)
 refine ab 7 (h:=aV (k:=aC 5 (fun c35=>?_) fun c35=>?_))
 exact ab 2 (h:=cu (us:=[aj Bs.zero.w0,aj Bs.zero.w1,aj Bs.zero.w2,aj Bs.zero.w3,ai 0,ai 0]) (k:=aY 0 (h:=bL H1 0 (k:=fun w2 H2=>gG 4 (h1:=cS (H2.b 0)) (h2:=dc) (h:=⟨Bs.zero,0,0,false,rfl,H2.af,(Is.no (y4 oz)),oz⟩)))))
 have JR:=cn p (a+1)
 have xm:=cn p (a+2)
 have P4:=cn p (a+3)
 have KB:=sJ p (a+2)
 have hx3:=sJ p (a+3)
 refine ab 7 (h:=aV (k:=ab 0 (h:=iV (a+1) (k:=aC 3 (fun wP=>?_) fun wP=>?_))))
 refine ab 4 (h:=aV (k:=aC 5 (fun Zd=>?_) fun Zd=>?_))
 exact ab 2 (h:=cu (us:=[aj Bs.zero.w0,aj Bs.zero.w1,aj Bs.zero.w2,aj Bs.zero.w3,ai 0,ai 0]) (k:=aY 0 (h:=bL H1 0 (k:=fun w3 H3=>gG 4 (h1:=cS (H3.b 0)) (h2:=dc) (h:=⟨Bs.zero,0,0,false,rfl,H3.af,(Is.no (De oz oz)),oz⟩)))))
 refine ab 6 (h:=aV (k:=ab 0 (h:=iV (a+2) (k:=ab 0 (h:=aA (c:=Hx (bn p (a+2)) w1 (cn _ _)) (k:=?_))))))
 rintro _ w4 ⟨rfl,u4⟩
 have H4:=H1.call u4
 refine ab 11 (h:=aV (k:=ab 0 (h:=iV (a+3) (k:=ab 0 (h:=aA (c:=Hx (bn p (a+3)) w4 (cn _ _)) (k:=?_))))))
 rintro _ w5 ⟨rfl,u5⟩
 have H5:=H4.call u5
 refine cv 7 [9,8,7,6,5,4,1] (h:=?_)
 refine aN 3 rfl (Qp (dm (bn p (a+2))) oz rfl rfl ?_)
 refine aN 1 rfl (Up (dm (bn p (a+2))) (dm (bn p (a+3))) oz oz rfl rfl (ab 1 (h:=aV (k:=ab 0 (h:=aA (c:=sY ((dm (bn p (a+2)))*16+(dm (bn p (a+3)))) _ w5 oz) (k:=?_))))))
 rintro _ w6 ⟨rfl,u6⟩
 have H6:=H5.call u6
 refine iX 2 54 (fun g44=>?_) fun g44=>?_
 exact aY 2 (h:=bL H6 0 (k:=fun w7 H7=>gG 4 (h1:=cS (H7.b 0)) (h2:=dc) (h:=⟨(fZ [((dm (bn p (a+2)))*16+(dm (bn p (a+3))))]),((((dm (bn p (a+2)))*16+(dm (bn p (a+3)))):Nat):Int),((a:Nat):Int)+4,dK (bn p (a+3)),rfl,H7.af,(by have h9:=HL (p:=p) (a:=a) (x:=fZ [dm (bn p (a+2))*16+dm (bn p (a+3))]) (nx:=(a:Int)+4) (on:=((dm (bn p (a+2))*16+dm (bn p (a+3)):Nat):Int)) oz oz rfl rfl rfl;revert h9;simp_all),oz⟩)))
 exact aY 2 (h:=bL H6 0 (k:=fun w8 H8=>gG 4 (h1:=cS (H8.b 0)) (h2:=dc) (h:=⟨(fZ [((dm (bn p (a+2)))*16+(dm (bn p (a+3))))]),((((dm (bn p (a+2)))*16+(dm (bn p (a+3)))):Nat):Int),((a:Nat):Int)+4,false,rfl,H8.af,(by have h9:=HL (p:=p) (a:=a) (x:=fZ [dm (bn p (a+2))*16+dm (bn p (a+3))]) (nx:=(a:Int)+4) (on:=((dm (bn p (a+2))*16+dm (bn p (a+3)):Nat):Int)) oz oz rfl rfl rfl;revert h9;simp_all),oz⟩)))
 refine ab 6 (h:=aV (k:=ab 0 (h:=iV (a+1) (k:=ab 0 (h:=aA (c:=Ql (bn p (a+1)) w1 (cn _ _)) (k:=?_))))))
 rintro _ w9 ⟨rfl,u9⟩
 have H9:=H1.call u9
 refine ab 3 (h:=dB H9 (k:=fun iy bW=>aY 0 (h:=bL bW 1 (k:=fun gS bP=>ab 6 (h:=cd (bP.b 1) (k:=ab 0 (h:=aA (c:=zd ((cO (bn p (a+1))).1) gS (rT.at bP)) (k:=?_))))))))
 rintro _ jz ⟨bH,b6,rfl,tV⟩
 have ck:=bP.ns tV
 refine aC 10 (fun NQ=>?_) fun NQ=>?_
 have PT:=ze (s:=(cO (bn p (a+1))).1) oz
 refine ab 3 (h:=cg 0 (ck.rt 2) (k:=ab 0 (h:=cI (ck.rt 2) (k:=ab 1 (h:=aV (k:=ab 0 (h:=aA (c:=sY ((bj ((cO (bn p (a+1))).1)).getD 0 0) _ jz oz) (k:=?_))))))))
 rintro _ kK ⟨rfl,zu⟩
 have cU:=ck.call zu
 exact aY 1 (h:=bL cU 0 (k:=fun nH cN=>cv 3 [5,4] (h:=gG 1 (h1:=cS (cN.b 0)) (h2:=dc) (h:=⟨(fZ [((bj ((cO (bn p (a+1))).1)).getD 0 0)]),((((bj ((cO (bn p (a+1))).1)).getD 0 0):Nat):Int),((a:Nat):Int)+2,(cO (bn p (a+1))).2,rfl,cN.af,(Na oz oz oz rfl rfl rfl),oz⟩))))
 exact ab 4 (h:=cd (ck.b 1) (k:=ab 1 (h:=aV (k:=ab 0 (h:=cu (k:=aY 1 (h:=bL ck 0 (k:=fun tU dt=>cv 3 [5,4] (h:=gG 1 (h1:=cS (dt.b 0)) (h2:=dc) (h:=⟨((cO (bn p (a+1))).1),-1,((a:Nat):Int)+2,(cO (bn p (a+1))).2,rfl,dt.af,(Nb oz oz oz rfl rfl rfl),oz⟩))))))))))
theorem ve (p:ByteArray) (aI:Int) (a:Nat) (w:World) (rT:cP eM w (some ⟨0,0,none⟩) qu 64) (uj:aI=((a:Nat):Int)) (lw:Laid w) (hp:p.size≤200) (ha:a<p.size):
 Calls Tryz.prog 171 #[.string p,ai aI] w (aX fun v w'=>∃x:Bs,∃on nx,∃ok:Bool,v= .tuple #[.agg #[aj x.w0,aj x.w1,aj x.w2,aj x.w3,ai on,ai nx],.bool ok]∧ax w [] w' []∧(Is (dS p a) ok (l7 (some on) none x nx))∧(0≤nx∧nx≤1000∧ -1≤on∧on≤255)):=by
 subst uj
 have jC:=rT.le
 refine cH Tryz.func171 (h:=fun H0=>ab 2 (h:=dB H0 (k:=fun w1 H1=>?_)))
 have HA:=cn p a
 refine ab 9 (h:=iV a (k:=aC 4 (fun c56=>?_) fun c56=>?_))
 refine ab 4 (h:=aA (c:=HK _ _ a w1 (rT.at H1) oz oz oz) (k:=?_))
 rintro _ w2 ⟨nG,ud,eB,gQ,rfl,u2,nA,ry⟩
 have H2:=H1.call u2
 exact aY 2 (h:=bL H2 0 (k:=fun w3 H3=>gG 4 (h1:=cS (H3.b 0)) (h2:=dc) (h:=⟨nG,ud,eB,gQ,rfl,H3.af,((BI oz nA).mono fun q hq=>hq.V7),oz⟩)))
 refine aN 4 rfl (lZ ((a:Nat):Int) ((p.size:Nat):Int) a p.size Tryz.underlying9 rfl rfl rfl (.inr ⟨_,rfl⟩) (.inl ⟨rfl,rfl⟩) oz oz ⟨by omega,by omega,by omega⟩ (ab 0 (h:=aA (c:=PM _ w1) (k:=?_))))
 rintro _ w4 ⟨rfl,u4⟩
 have H4:=H1.call u4
 refine dv 3 (fun UI=>?_) fun UI=>?_
 have CS:named p a=true:=by rw [←yS oz];exact UI
 have D3:=gH CS
 have Bc:(p.extract (a+2) p.size).size≤200:=by rw [ByteArray.size_extract];omega
 have VP:=J7 (p.extract (a+2) p.size)
 refine ab 4 (h:=aV (k:=?_))
 refine aN 0 rfl (lZ (((a:Nat):Int)+2) ((p.size:Nat):Int) (a+2) p.size Tryz.underlying9 rfl rfl rfl (.inr ⟨_,rfl⟩) (.inl ⟨rfl,rfl⟩) oz oz ⟨by omega,by omega,by omega⟩ (ab 0 (h:=aA (c:=NJ _ w4 (lw.at H4) oz) (k:=?_))))
 rintro _ w5 ⟨rfl,u5⟩
 have H5:=H4.call u5
 refine ab 12 (h:=aA (c:=zb _ w5) (k:=?_))
 rintro _ w6 ⟨rfl,u6⟩
 have H6:=H5.call u6
 refine ab 3 (h:=dB H6 (k:=fun w7 H7=>aY 0 (h:=bL H7 1 (k:=fun w8 H8=>cv 3 [10,9,8,6,5,4,1] (h:=ab 2 (h:=cd (H8.b 1) (k:=ab 3 (h:=aV (k:=ab 0 (h:=aV (k:=ab 0 (h:=cu (k:=iX 2 48 (fun JW=>?_) fun JW=>?_)))))))))))))
 exact aY 2 (h:=bL H8 0 (k:=fun w9 H9=>gG 4 (h1:=cS (H9.b 0)) (h2:=dc) (h:=⟨(bZ (mU (p.extract (a+2) p.size))),-1,(((a:Nat):Int)+(((mU (p.extract (a+2) p.size)).size:Nat):Int))+4,fA (mU (p.extract (a+2) p.size)),rfl,H9.af,(by have h9:=BJ (p:=p) (a:=a) (x:=bZ (mU (p.extract (a+2) p.size))) (nx:=(a:Int)+(mU (p.extract (a+2) p.size)).size+4) (on:= -1) CS rfl rfl rfl;revert h9;simp_all),oz⟩)))
 exact aY 2 (h:=bL H8 0 (k:=fun iy bW=>gG 4 (h1:=cS (bW.b 0)) (h2:=dc) (h:=⟨(bZ (mU (p.extract (a+2) p.size))),-1,(((a:Nat):Int)+(((mU (p.extract (a+2) p.size)).size:Nat):Int))+4,false,rfl,bW.af,(by have h9:=BJ (p:=p) (a:=a) (x:=bZ (mU (p.extract (a+2) p.size))) (nx:=(a:Int)+(mU (p.extract (a+2) p.size)).size+4) (on:= -1) CS rfl rfl rfl;revert h9;simp_all),oz⟩)))
 have CS:¬named p a=true:=by rw [←yS oz];exact UI
 refine ab 7 (h:=iV a (k:=ab 1 (h:=aV (k:=ab 0 (h:=aA (c:=sY (bn p a) _ w4 (cn _ _)) (k:=?_))))))
 rintro _ gS ⟨rfl,xr⟩
 have bP:=H4.call xr
 exact aY 0 (h:=bL bP 0 (k:=fun jz ck=>gG 4 (h1:=cS (ck.b 0)) (h2:=dc) (h:=⟨(fZ [(bn p a)]),(((bn p a):Nat):Int),((a:Nat):Int)+1,true,rfl,ck.af,((yl oz CS rfl (fun o ho=>by cases ho;rfl) rfl).mono fun q hq=>hq.V7),oz⟩)))
theorem LM (p:ByteArray) (aI:Int) (a:Nat) (w:World) (rT:cP eM w (some ⟨0,0,none⟩) qu 64) (uj:aI=((a:Nat):Int)) (lw:Laid w) (hp:p.size≤200) (ha:a<p.size):
 Calls Tryz.prog 141 #[.string p,ai aI] w (aX fun v w'=>∃x:Bs,∃on nx,∃ok:Bool,v= .tuple #[.agg #[aj x.w0,aj x.w1,aj x.w2,aj x.w3,ai on,ai nx],.bool ok]∧ax w [] w' []∧(Is (iY p a) ok (A4 x nx))∧(0≤nx∧nx≤1000∧ -1≤on∧on≤255)):=by
 subst uj
 have jC:=rT.le
 refine cH Tryz.func141 (h:=fun H0=>ab 2 (h:=dB H0 (k:=fun w1 H1=>ab 7 (h:=aA (c:=ve _ _ a w1 (rT.at H1) oz (lw.at H1) oz oz) (k:=?_)))))
 rintro _ w2 ⟨nG,ud,eB,gQ,rfl,u2,Ak,ry⟩
 have H2:=H1.call u2
 refine ab 3 (h:=dB H2 (k:=fun w3 H3=>aY 0 (h:=bL H3 1 (k:=fun w4 H4=>iX 9 17 (fun HE=>?_) fun HE=>?_))))
 exact cv 29 [44,7,6,5,4,0] (h:=ab 3 (h:=cd (H4.b 1) (k:=aY 1 (h:=bL H4 0 (k:=fun w5 H5=>gG 4 (h1:=cS (H5.b 0)) (h2:=dc) (h:=⟨nG,ud,eB,gQ,rfl,H5.af,(j0 Ak (by first|(intro h9 h8;omega)|(intro h9;rw [h9] at HE;cases HE))),oz⟩))))))
 refine ab 1 (h:=aM (H4.b 1) (k:=b9 3 22 (fun adk=>?_) fun adk=>?_))
 exact cv 24 [44,7,6,5,4,0] (h:=ab 3 (h:=cd (H4.b 1) (k:=aY 1 (h:=bL H4 0 (k:=fun w6 H6=>gG 4 (h1:=cS (H6.b 0)) (h2:=dc) (h:=⟨nG,ud,eB,gQ,rfl,H6.af,(j0 Ak (by first|(intro h9 h8;omega)|(intro h9;rw [h9] at HE;cases HE))),oz⟩))))))
 refine ab 1 (h:=aM (H4.b 1) (k:=ab 0 (h:=aV (k:=b9 5 30 (fun Yo=>?_) fun Yo=>?_))))
 exact cv 16 [44,7,6,5,4,0] (h:=ab 3 (h:=cd (H4.b 1) (k:=aY 1 (h:=bL H4 0 (k:=fun w7 H7=>gG 4 (h1:=cS (H7.b 0)) (h2:=dc) (h:=⟨nG,ud,eB,gQ,rfl,H7.af,(j0 Ak (by first|(intro h9 h8;omega)|(intro h9;rw [h9] at HE;cases HE))),oz⟩))))))
 refine ab 2 (h:=aM (H4.b 1) (k:=ab 0 (h:=iV eB.toNat (cD:=oz) (k:=b9 3 37 (fun TU=>?_) fun TU=>?_))))
 exact cv 9 [44,7,6,5,4,0] (h:=ab 3 (h:=cd (H4.b 1) (k:=aY 1 (h:=bL H4 0 (k:=fun w8 H8=>gG 4 (h1:=cS (H8.b 0)) (h2:=dc) (h:=⟨nG,ud,eB,gQ,rfl,H8.af,(j0 Ak (by first|(intro h9 h8;omega)|(intro h9;rw [h9] at HE;cases HE))),oz⟩))))))
 refine ab 2 (h:=aM (H4.b 1) (k:=ab 0 (h:=aV (k:=ab 0 (h:=iV ((eB+1).toNat) (cD:=oz) (k:=cv 4 [44,7,6,5,4,0] (h:=aC 0 (fun Kd=>?_) fun Kd=>?_)))))))
 exact ab 2 (h:=cd (H4.b 1) (k:=aY 1 (h:=bL H4 0 (k:=fun w9 H9=>gG 4 (h1:=cS (H9.b 0)) (h2:=dc) (h:=⟨nG,ud,eB,gQ,rfl,H9.af,(j0 Ak (by first|(intro h9 h8;omega)|(intro h9;rw [h9] at HE;cases HE))),oz⟩)))))
 have D1:Is (dS p a) true (l7 (some ud) none nG eB):=(show gQ=true by simpa using HE)▸Ak
 refine ab 6 (h:=aM (H4.b 1) (k:=ab 0 (h:=aV (k:=ab 0 (h:=aA (c:=ve _ _ ((eB+1).toNat) w4 (rT.at H4) oz (lw.at H4) oz oz) (k:=?_))))))
 rintro _ iy ⟨Oj,W4,zP,Ch,rfl,uU,Fv,acp⟩
 have bW:=H4.call uU
 refine ab 3 (h:=dB bW (k:=fun gS bP=>aY 0 (h:=bL bP 2 (k:=fun jz ck=>iX 9 57 (fun RU=>?_) fun RU=>?_))))
 refine ab 11 (h:=cu (us:=[aj Bs.zero.w0,aj Bs.zero.w1,aj Bs.zero.w2,aj Bs.zero.w3,ai 0,ai 0]) (k:=aY 0 (h:=bL ck 0 (k:=fun kK cU=>gG 4 (h1:=cS (cU.b 0)) (h2:=dc) (h:=?_)))))
 have e2:=qU D1 ⟨by omega,by omega,by omega,by omega⟩ Fv
 first|rw [if_pos (by simpa using RU),if_pos oz] at e2|rw [if_neg (by simpa using RU)] at e2
 exact ⟨Bs.zero,0,0,false,rfl,cU.af,(Is.no e2),oz⟩
 refine ab 1 (h:=aM (ck.b 2) (k:=ab 1 (h:=aM (ck.b 1) (k:=aC 4 (fun UG=>?_) fun UG=>?_))))
 refine ab 2 (h:=cu (us:=[aj Bs.zero.w0,aj Bs.zero.w1,aj Bs.zero.w2,aj Bs.zero.w3,ai 0,ai 0]) (k:=aY 0 (h:=bL ck 0 (k:=fun nH cN=>gG 4 (h1:=cS (cN.b 0)) (h2:=dc) (h:=?_)))))
 have e2:=qU D1 ⟨by omega,by omega,by omega,by omega⟩ Fv
 first|rw [if_pos (by simpa using RU),if_pos oz] at e2|rw [if_neg (by simpa using RU)] at e2
 exact ⟨Bs.zero,0,0,false,rfl,cN.af,(Is.no e2),oz⟩
 refine fI 3 ck (h:=fun tU dt=>c7 1 1 (dt.b 1) (D:=fun _ hC=>aM hC) (h:=gk 0 2 (D:=fun _=>jd) (h:=c7 1 4 (dt.b 2) (D:=fun _ hC=>aM hC) (h:=gk 0 5 (D:=fun _=>jd) (h:=c7 1 8 (dt.b 2) (D:=fun _ hC=>aM hC) (h:=dj 0 6 (D:=aA (c:=ED _ ud.toNat _ W4.toNat tU oz oz oz oz) (k:=?_))))))))
 rintro _ ur ⟨rfl,ON⟩
 have dw:=dt.call ON
 refine ⟨⟨(dw.b 2),trivial,trivial⟩,?_⟩
 refine gk 0 9 (D:=fun _=>cu) (h:=dj 0 10 (D:=bL dw 0 (k:=fun xq fH=>?_)))
 refine ⟨trivial,?_⟩
 refine cv 3 [5,4] (h:=gG 1 (h1:=cS (fH.b 0)) (h2:=dc) (h:=?_))
 have e2:=qU D1 ⟨by omega,by omega,by omega,by omega⟩ Fv
 rw [if_pos (by simpa using RU),if_neg oz] at e2
 exact ⟨(bG ud.toNat W4.toNat),-1,zP,true,rfl,fH.af,(Is.yes e2 ⟨rfl,by simp;omega⟩),oz⟩
theorem DD (p:ByteArray) (aI:Int) (a:Nat) (w:World) (rT:cP eM w (some ⟨0,0,none⟩) qu 64) (uj:aI=((a:Nat):Int)) (lw:Laid w) (hp:p.size≤200) (ha:a<p.size):
 Calls Tryz.prog 97 #[.string p,ai aI] w (aX fun v w'=>∃x:Bs,∃nx,∃ok:Bool,v= .tuple #[.agg #[aj (x).w0,aj (x).w1,aj (x).w2,aj (x).w3],ai nx,.bool ok]∧ax w [] w' []∧(∃r,s9 p a r∧Is r ok (A4 x nx))):=by
 subst uj
 have pU:=zg ha
 have jC:=rT.le
 refine cH Tryz.func97 (h:=fun H0=>ab 2 (h:=dB H0 (k:=fun w1 H1=>ab 7 (h:=aV (k:=o9 3 [7,6,5,4,0] 0 H1 (fun B R L e v=>∃nt:Bool,e=(8,.bool nt)::B∧av w L v (R)∧(nt=nB p a)) ?_ ?_)))))
 refine b9 6 18 (fun g82=>?_) fun g82=>?_
 exact ab 2 (h:=iV (a+1) (k:=cA 4 (h:=by exact ⟨decide (((bn p (a+1):Nat):Int)=(94:Int)),rfl,H1,(by unfold nB;rw [Bool.eq_iff_iff];simp only [Bool.and_eq_true,decide_eq_true_eq,Bool.false_eq_true,false_iff,true_iff];omega)⟩)))
 exact cA 7 (h:=by exact ⟨false,rfl,H1,(by unfold nB;rw [Bool.eq_iff_iff];simp only [Bool.and_eq_true,decide_eq_true_eq,Bool.false_eq_true,false_iff,true_iff];omega)⟩)
 rintro Γ1 w2 ⟨nt,rfl,H2,PQ⟩
 refine o9 0 [8,6,5,4,0] 0 H2 (fun B R L e v=>∃iI,e=(7,ai iI)::B∧av w L v (R)∧(iI=fp p a)) ?_ ?_
 refine dv 5 (fun NO=>?_) fun NO=>?_
 exact ab 2 (h:=aV (k:=cA 2 (h:=by exact ⟨(((a:Nat):Int)+1)+1,rfl,H2,(by unfold fp;rw [←PQ];first|rw [if_pos NO];omega|rw [if_neg NO];omega)⟩)))
 exact cA 1 (h:=by exact ⟨((a:Nat):Int)+1,rfl,H2,(by unfold fp;rw [←PQ];first|rw [if_pos NO];omega|rw [if_neg NO];omega)⟩)
 rintro Γ2 w3 ⟨iI,rfl,H3,hif⟩
 refine ab 2 (h:=dB H3 (k:=fun w4 H4=>?_))
 have H5:=H4.ps [1,0]
 refine o9 2 [9,8,6,5,4,0] 1 H5 (fun B R L e v=>∃iI,∃r:Bs,e=(7,ai iI)::B∧av w L v ([aQ w3.heap.size #[aj r.w0,aj r.w1,aj r.w2,aj r.w3] 87]::R)∧(0≤iI∧iI≤p.size)∧(∀q,uo p iI.toNat r q→uo p (fp p a) Bs.zero q)∧(iI<p.size→bn p iI.toNat=93)) ?_ ?_
 refine dA 1 [7,9,8,6,5,4,0] (fun B R L m e v=>∃iI,∃r:Bs,e=(7,ai iI)::B∧av w L v ([aQ w3.heap.size #[aj r.w0,aj r.w1,aj r.w2,aj r.w3] 87]::R)∧(0≤iI∧iI≤p.size)∧(∀q,uo p iI.toNat r q→uo p (fp p a) Bs.zero q)∧m=p.size-iI.toNat) (i:=⟨iI,Bs.zero,rfl,H5,oz,(by rw [hif];exact fun q h=>h),rfl⟩) (h:=?_)
 rintro m1 Γ3 w5 ⟨vV,r,rfl,H6,hi0,hI,rfl⟩
 refine b9 8 31 (fun g87=>?_) fun g87=>?_
 refine ab 2 (h:=iV vV.toNat (cD:=oz) (k:=aC 4 (fun c87=>?_) fun c87=>?_))
 refine ab 7 (h:=aA (c:=LM _ _ vV.toNat w5 (rT.at H6) oz (lw.at H6) oz oz) (k:=?_))
 rintro _ w6 ⟨nG,ud,eB,gQ,rfl,u3,XC,ry⟩
 have H7:=H6.call u3
 refine ab 3 (h:=dB H7 (k:=fun w7 H8=>aY 0 (h:=bL H8 2 (k:=fun w8 H9=>dv 10 (fun Y4=>?_) fun Y4=>?_))))
 exact ab 2 (h:=cd (H9.b 0) (k:=aY 0 (h:=bL H9 1 (k:=fun w9 bW=>xB 5 (h1:=cS (bW.b 1)) (h2:=dc) (h3:=dc) (h:=⟨_,0,false,rfl,bW.af,(uO hI oz oz (XC.f (by rw [show gQ=false by simpa using Y4];decide)))⟩)))))
 obtain ⟨⟨px,pn⟩,XG,hpx,PL⟩:=XC.t (by simpa using Y4)
 have hpr:=su oz XG
 simp only at hpx PL
 refine fI 2 H9 (h:=fun iy bP=>c7 0 0 (bP.b 0) (D:=fun _ hC=>cd hC) (h:=c7 1 2 (bP.b 2) (D:=fun _ hC=>cd hC) (h:=c7 1 5 (bP.b 2) (D:=fun _ hC=>aM hC) (h:=dj 0 3 (D:=aA (c:=zM r nG iy) (k:=?_))))))
 rintro _ gS ⟨rfl,u7⟩
 have ck:=bP.call u7
 refine ⟨⟨(ck.b 2),trivial,trivial⟩,?_⟩
 refine dj 0 6 (D:=bL ck 0 (k:=fun jz cU=>?_))
 refine ⟨⟨(cU.b 2),trivial,trivial⟩,?_⟩
 exact cm 3 (h:=by exact ⟨eB,(qV r nG),rfl,(cU.pm [0,1] rfl rfl),oz,(by intro q h;refine hI q (.step oz oz XG ?_);rw [←hpx,show pn=eB.toNat by omega];exact h),rfl⟩)
 exact cA 1 (h:=by exact ⟨vV,r,rfl,H6,oz,qI,oz⟩)
 exact cA 9 (h:=by exact ⟨vV,r,rfl,H6,oz,qI,oz⟩)
 rintro Γ4 kK ⟨PE,r_1,rfl,cN,hi0,hI,TJ⟩
 refine dv 6 (fun wO=>?_) fun wO=>?_
 refine ab 1 (h:=cd (cN.b 0) (k:=ab 0 (h:=aA (c:=oX r_1 kK) (k:=?_))))
 rintro _ nH ⟨rfl,u9⟩
 have dt:=cN.call u9
 exact aY 0 (h:=bL dt 0 (k:=fun tU dw=>ab 4 (h:=cd (dw.b 0) (k:=ab 1 (h:=aV (k:=aY 4 (h:=bL dw 1 (k:=fun ur fH=>xB 5 (h1:=cS (fH.b 1)) (h2:=dc) (h3:=dc) (h:=⟨_,PE+1,decide (PE<((p.size:Nat):Int)),rfl,fH.af,(uN hI oz (by simp only [decide_eq_true_eq];omega) (by unfold wW;rw [←PQ];first|rw [if_pos wO]|rw [if_neg wO]) oz)⟩)))))))))
 exact ab 4 (h:=cd (cN.b 0) (k:=ab 1 (h:=aV (k:=aY 4 (h:=bL cN 1 (k:=fun xq il=>xB 5 (h1:=cS (il.b 1)) (h2:=dc) (h3:=dc) (h:=⟨_,PE+1,decide (PE<((p.size:Nat):Int)),rfl,il.af,(uN hI oz (by simp only [decide_eq_true_eq];omega) (by unfold wW;rw [←PQ];first|rw [if_pos wO]|rw [if_neg wO]) oz)⟩)))))))
theorem tB (p:ByteArray) (aI:Int) (a:Nat) (w:World) (uj:aI=((a:Nat):Int)) (hp:p.size≤200) (ha:a≤p.size):
 Calls Tryz.prog 140 #[.string p,ai aI] w (aX fun v w'=>v= .tuple #[b7 (dH p a (kD p a)),b7 (a+kD p a),.bool (b8 p a)]∧ax w [] w' []):=by
 subst uj
 refine cH Tryz.func140 (h:=fun H0=>dA 15 [5,4,6,0,1] (fun B R L m e v=>∃k:Nat,∃nI,e=(5,b7 (a+k))::(4,ai nI)::B∧av w L v (R)∧(k≤kD p a)∧(nI=(dH p a k:Nat))∧m=3-k) (i:=⟨0,0,rfl,H0,(by exact Nat.zero_le _),rfl,rfl⟩) (h:=?_))
 rintro m1 Γ1 w1 ⟨k,nI,rfl,H1,hk,hn,rfl⟩
 have hvs:=iz hk
 have Hz:=cn p (a+k)
 refine o9 1 [5,4,6,0,1] 0 H1 (fun B R L e v=>∃q:Bool,e=(29,.bool q)::B∧av w L v (R)∧(q=(decide (k<3)&&uK p (a+k)))) ?_ ?_
 refine b9 6 12 (fun adL=>?_) fun adL=>?_
 refine ab 2 (h:=iV (a+k) (k:=b9 3 18 (fun YF=>?_) fun YF=>?_))
 refine ab 2 (h:=iV (a+k) (k:=b9 3 24 (fun T9=>?_) fun T9=>?_))
 exact ab 2 (h:=aV (k:=cA 3 (h:=by exact ⟨decide (((a+k:Nat):Int)<(((a:Nat):Int)+3)),rfl,H1,(by unfold uK;rw [Bool.eq_iff_iff];simp only [Bool.and_eq_true,decide_eq_true_eq,Bool.false_eq_true,false_iff,true_iff];omega)⟩)))
 exact cA 6 (h:=by exact ⟨false,rfl,H1,(by unfold uK;rw [Bool.eq_iff_iff];simp only [Bool.and_eq_true,decide_eq_true_eq,Bool.false_eq_true,false_iff,true_iff];omega)⟩)
 exact cA 12 (h:=by exact ⟨false,rfl,H1,(by unfold uK;rw [Bool.eq_iff_iff];simp only [Bool.and_eq_true,decide_eq_true_eq,Bool.false_eq_true,false_iff,true_iff];omega)⟩)
 exact cA 18 (h:=by exact ⟨false,rfl,H1,(by unfold uK;rw [Bool.eq_iff_iff];simp only [Bool.and_eq_true,decide_eq_true_eq,Bool.false_eq_true,false_iff,true_iff];omega)⟩)
 rintro Γ2 w2 ⟨q,rfl,H2,hq⟩
 refine dv 0 (fun N3=>?_) fun N3=>?_
 have hgo:=RA hk hq N3
 refine ab 6 (h:=Ha (k:=ab 2 (h:=iV (a+k) (k:=?_))))
 exact aN 0 rfl (ku rfl rfl oz oz (ab 0 (h:=jd (k:=ab 0 (h:=aV (k:=ab 5 (h:=aV (k:=cm 3 (h:=by exact ⟨k+1,(10*nI)+(((bn p (a+k):Nat):Int)-48),rfl,H2,(by exact hgo.1),(by rw [hn];simp only [dH];omega),rfl⟩)))))))))
 refine o9 2 [5,4] 0 H2 (fun B R L e v=>∃q2:Bool,e=(6,.bool q2)::B∧av w L v (R)∧(k=kD p a)∧(q2=b8 p a)) ?_ ?_
 have uh:=My hk hq N3
 have HA:=cn p a
 have h0d:0<k→a<p.size:=fun h9=>by have h8:=uJ (sD (p:=p) (a:=a) (k:=0) oz);omega
 refine b9 7 45 (fun adK=>?_) fun adK=>?_
 refine b9 4 49 (fun YE=>?_) fun YE=>?_
 refine ab 2 (h:=iV a (k:=b9 2 54 (fun T8=>?_) fun T8=>?_))
 exact cA 10 (h:=by exact ⟨true,rfl,H2,(by exact uh),(by unfold b8;rw [←uh];rw [Bool.eq_iff_iff];simp only [Bool.and_eq_true,decide_eq_true_eq,Bool.false_eq_true,false_iff,true_iff];omega)⟩)
 exact ab 2 (h:=aV (k:=cA 7 (h:=by exact ⟨decide (((a+k:Nat):Int)=(((a:Nat):Int)+1)),rfl,H2,(by exact uh),(by unfold b8;rw [←uh];rw [Bool.eq_iff_iff];simp only [Bool.and_eq_true,decide_eq_true_eq,Bool.false_eq_true,false_iff,true_iff];omega)⟩)))
 exact cA 15 (h:=by exact ⟨false,rfl,H2,(by exact uh),(by unfold b8;rw [←uh];rw [Bool.eq_iff_iff];simp only [Bool.and_eq_true,decide_eq_true_eq,Bool.false_eq_true,false_iff,true_iff];omega)⟩)
 exact cA 19 (h:=by exact ⟨false,rfl,H2,(by exact uh),(by unfold b8;rw [←uh];rw [Bool.eq_iff_iff];simp only [Bool.and_eq_true,decide_eq_true_eq,Bool.false_eq_true,false_iff,true_iff];omega)⟩)
 rintro Γ3 w3 ⟨q2,rfl,H3,uh,Am⟩
 exact mA 1 (h:=⟨(by rw [hn,Am,←uh];try rfl),H3.af⟩)
theorem Ex (p:ByteArray) (aI:Int) (a:Nat) (w:World) (uj:aI=((a:Nat):Int)) (hp:p.size≤200) (ha:a<p.size):
 Calls Tryz.prog 96 #[.string p,ai aI] w (aX fun v w'=>∃lo hi nx,∃ok:Bool,v= .tuple #[ai lo,ai hi,ai nx,.bool ok]∧ax w [] w' []∧(Is (gE p a) ok (A2 lo hi nx))):=by
 subst uj
 refine cH Tryz.func96 (h:=fun H0=>ab 12 (h:=aV (k:=ab 0 (h:=aA (c:=tB _ _ (a+1) w oz oz oz) (k:=?_)))))
 rintro _ w1 ⟨rfl,u1⟩
 have H1:=H0.call u1
 have hv1:=iz (Nat.le_refl (kD p (a+1)))
 have OC:=CI (p:=p) (a:=a+1) oz
 have acM:=yN p (a+1)
 refine iX 15 19 (fun iL=>?_) fun iL=>?_
 exact Ky 17 (h:=⟨0,0,0,false,rfl,H1.af,(Is.no (vn (by first|exact .inl (by simpa using iL)|exact .inr oz)))⟩)
 refine aC 7 (fun UX=>?_) fun UX=>?_
 exact Ky 9 (h:=⟨0,0,0,false,rfl,H1.af,(Is.no (vn (by first|exact .inl (by simpa using iL)|exact .inr oz)))⟩)
 refine ab 13 (h:=iV ((a+1)+kD p (a+1)) (k:=aC 3 (fun N1=>?_) fun N1=>?_))
 refine ab 3 (h:=aV (k:=b9 15 36 (fun adG=>?_) fun adG=>?_))
 refine ab 2 (h:=iV (((a+1)+kD p (a+1))+1) (k:=cv 4 [41,5,8,7,4,6,0] (h:=aC 0 (fun mY=>?_) fun mY=>?_)))
 have hv2:=iz (Nat.le_refl (kD p (a+1+kD p (a+1)+1)))
 have tD:=CI (p:=p) (a:=a+1+kD p (a+1)+1) oz
 refine ab 4 (h:=aA (c:=tB _ _ (((a+1)+kD p (a+1))+1) w1 oz oz oz) (k:=?_))
 rintro _ w2 ⟨rfl,u2⟩
 have H2:=H1.call u2
 have hv2:=iz (Nat.le_refl (kD p (a+1+kD p (a+1)+1)))
 have tD:=CI (p:=p) (a:=a+1+kD p (a+1)+1) oz
 refine iX 14 51 (fun sO=>?_) fun sO=>?_
 exact Ky 16 (h:=⟨0,0,0,false,rfl,H2.af,(Is.no (vo oz (by first|exact .inl (by simpa using sO)|exact .inr oz) oz))⟩)
 refine aC 6 (fun wV=>?_) fun wV=>?_
 exact Ky 9 (h:=⟨0,0,0,false,rfl,H2.af,(Is.no (vo oz (by first|exact .inl (by simpa using sO)|exact .inr oz) oz))⟩)
 refine fI 3 H2 (h:=fun w3 H3=>gk 3 3 (D:=fun _=>aV) (h:=EG 5 64 (fun FH=>?_) fun FH=>?_))
 exact gk 2 11 (D:=fun _=>iV ((((a+1)+kD p (a+1))+1)+kD p (((a+1)+kD p (a+1))+1))) (h:=cv 8 [7,6,5,4] (h:=Ky 1 (h:=⟨((dH p (a+1) (kD p (a+1)):Nat):Int),((dH p (((a+1)+kD p (a+1))+1) (kD p (((a+1)+kD p (a+1))+1)):Nat):Int),(((((a+1)+kD p (a+1))+1)+kD p (((a+1)+kD p (a+1))+1):Nat):Int)+1,decide (((bn p ((((a+1)+kD p (a+1))+1)+kD p (((a+1)+kD p (a+1))+1)):Nat):Int)=(125:Int)),rfl,H3.af,(by first|exact nV (show b8 p (a+1)=true by simpa using iL) oz oz (by first|(simp only [decide_eq_true_eq];omega)|(simp only [Bool.false_eq_true,false_iff];omega)) rfl rfl rfl|exact nU (show b8 p (a+1)=true by simpa using iL) oz oz oz (by first|(simp only [decide_eq_true_eq];omega)|(simp only [Bool.false_eq_true,false_iff];omega)) rfl rfl rfl|exact nn (show b8 p (a+1)=true by simpa using iL) oz oz oz (by simpa using sO) oz (by first|(simp only [decide_eq_true_eq];omega)|(simp only [Bool.false_eq_true,false_iff];omega)) rfl rfl rfl)⟩)))
 exact cv 11 [7,6,5,4] (h:=Ky 1 (h:=⟨((dH p (a+1) (kD p (a+1)):Nat):Int),((dH p (((a+1)+kD p (a+1))+1) (kD p (((a+1)+kD p (a+1))+1)):Nat):Int),(((((a+1)+kD p (a+1))+1)+kD p (((a+1)+kD p (a+1))+1):Nat):Int)+1,false,rfl,H3.af,(by first|exact nV (show b8 p (a+1)=true by simpa using iL) oz oz (by first|(simp only [decide_eq_true_eq];omega)|(simp only [Bool.false_eq_true,false_iff];omega)) rfl rfl rfl|exact nU (show b8 p (a+1)=true by simpa using iL) oz oz oz (by first|(simp only [decide_eq_true_eq];omega)|(simp only [Bool.false_eq_true,false_iff];omega)) rfl rfl rfl|exact nn (show b8 p (a+1)=true by simpa using iL) oz oz oz (by simpa using sO) oz (by first|(simp only [decide_eq_true_eq];omega)|(simp only [Bool.false_eq_true,false_iff];omega)) rfl rfl rfl)⟩))
 refine fI 3 H1 (h:=fun w4 H4=>gk 3 3 (D:=fun _=>aV) (h:=EG 5 64 (fun FH=>?_) fun FH=>?_))
 exact gk 2 11 (D:=fun _=>iV (((a+1)+kD p (a+1))+1)) (h:=Ky 9 (h:=⟨((dH p (a+1) (kD p (a+1)):Nat):Int),-1,((((a+1)+kD p (a+1):Nat):Int)+1)+1,decide (((bn p (((a+1)+kD p (a+1))+1):Nat):Int)=(125:Int)),rfl,H4.af,(by first|exact nV (show b8 p (a+1)=true by simpa using iL) oz oz (by first|(simp only [decide_eq_true_eq];omega)|(simp only [Bool.false_eq_true,false_iff];omega)) rfl rfl rfl|exact nU (show b8 p (a+1)=true by simpa using iL) oz oz oz (by first|(simp only [decide_eq_true_eq];omega)|(simp only [Bool.false_eq_true,false_iff];omega)) rfl rfl rfl|exact nn (show b8 p (a+1)=true by simpa using iL) oz oz oz (by simpa using sO) oz (by first|(simp only [decide_eq_true_eq];omega)|(simp only [Bool.false_eq_true,false_iff];omega)) rfl rfl rfl)⟩))
 exact Ky 12 (h:=⟨((dH p (a+1) (kD p (a+1)):Nat):Int),-1,((((a+1)+kD p (a+1):Nat):Int)+1)+1,false,rfl,H4.af,(by first|exact nV (show b8 p (a+1)=true by simpa using iL) oz oz (by first|(simp only [decide_eq_true_eq];omega)|(simp only [Bool.false_eq_true,false_iff];omega)) rfl rfl rfl|exact nU (show b8 p (a+1)=true by simpa using iL) oz oz oz (by first|(simp only [decide_eq_true_eq];omega)|(simp only [Bool.false_eq_true,false_iff];omega)) rfl rfl rfl|exact nn (show b8 p (a+1)=true by simpa using iL) oz oz oz (by simpa using sO) oz (by first|(simp only [decide_eq_true_eq];omega)|(simp only [Bool.false_eq_true,false_iff];omega)) rfl rfl rfl)⟩)
 refine cv 7 [41,5,8,7,4,6,0] (h:=fI 4 H1 (h:=fun w5 H5=>gk 3 3 (D:=fun _=>aV) (h:=EG 5 64 (fun FH=>?_) fun FH=>?_)))
 exact gk 2 11 (D:=fun _=>iV (((a+1)+kD p (a+1))+1)) (h:=Ky 9 (h:=⟨((dH p (a+1) (kD p (a+1)):Nat):Int),-1,((((a+1)+kD p (a+1):Nat):Int)+1)+1,decide (((bn p (((a+1)+kD p (a+1))+1):Nat):Int)=(125:Int)),rfl,H5.af,(by first|exact nV (show b8 p (a+1)=true by simpa using iL) oz oz (by first|(simp only [decide_eq_true_eq];omega)|(simp only [Bool.false_eq_true,false_iff];omega)) rfl rfl rfl|exact nU (show b8 p (a+1)=true by simpa using iL) oz oz oz (by first|(simp only [decide_eq_true_eq];omega)|(simp only [Bool.false_eq_true,false_iff];omega)) rfl rfl rfl|exact nn (show b8 p (a+1)=true by simpa using iL) oz oz oz (by simpa using sO) oz (by first|(simp only [decide_eq_true_eq];omega)|(simp only [Bool.false_eq_true,false_iff];omega)) rfl rfl rfl)⟩))
 exact Ky 12 (h:=⟨((dH p (a+1) (kD p (a+1)):Nat):Int),-1,((((a+1)+kD p (a+1):Nat):Int)+1)+1,false,rfl,H5.af,(by first|exact nV (show b8 p (a+1)=true by simpa using iL) oz oz (by first|(simp only [decide_eq_true_eq];omega)|(simp only [Bool.false_eq_true,false_iff];omega)) rfl rfl rfl|exact nU (show b8 p (a+1)=true by simpa using iL) oz oz oz (by first|(simp only [decide_eq_true_eq];omega)|(simp only [Bool.false_eq_true,false_iff];omega)) rfl rfl rfl|exact nn (show b8 p (a+1)=true by simpa using iL) oz oz oz (by simpa using sO) oz (by first|(simp only [decide_eq_true_eq];omega)|(simp only [Bool.false_eq_true,false_iff];omega)) rfl rfl rfl)⟩)
 refine fI 3 H1 (h:=fun w6 H6=>gk 3 3 (D:=fun _=>aV) (h:=EG 5 64 (fun FH=>?_) fun FH=>?_))
 exact gk 2 11 (D:=fun _=>iV ((a+1)+kD p (a+1))) (h:=cv 8 [7,6,5,4] (h:=Ky 1 (h:=⟨((dH p (a+1) (kD p (a+1)):Nat):Int),((dH p (a+1) (kD p (a+1)):Nat):Int),(((a+1)+kD p (a+1):Nat):Int)+1,decide (((bn p ((a+1)+kD p (a+1)):Nat):Int)=(125:Int)),rfl,H6.af,(by first|exact nV (show b8 p (a+1)=true by simpa using iL) oz oz (by first|(simp only [decide_eq_true_eq];omega)|(simp only [Bool.false_eq_true,false_iff];omega)) rfl rfl rfl|exact nU (show b8 p (a+1)=true by simpa using iL) oz oz oz (by first|(simp only [decide_eq_true_eq];omega)|(simp only [Bool.false_eq_true,false_iff];omega)) rfl rfl rfl|exact nn (show b8 p (a+1)=true by simpa using iL) oz oz oz (by simpa using sO) oz (by first|(simp only [decide_eq_true_eq];omega)|(simp only [Bool.false_eq_true,false_iff];omega)) rfl rfl rfl)⟩)))
 exact cv 11 [7,6,5,4] (h:=Ky 1 (h:=⟨((dH p (a+1) (kD p (a+1)):Nat):Int),((dH p (a+1) (kD p (a+1)):Nat):Int),(((a+1)+kD p (a+1):Nat):Int)+1,false,rfl,H6.af,(by first|exact nV (show b8 p (a+1)=true by simpa using iL) oz oz (by first|(simp only [decide_eq_true_eq];omega)|(simp only [Bool.false_eq_true,false_iff];omega)) rfl rfl rfl|exact nU (show b8 p (a+1)=true by simpa using iL) oz oz oz (by first|(simp only [decide_eq_true_eq];omega)|(simp only [Bool.false_eq_true,false_iff];omega)) rfl rfl rfl|exact nn (show b8 p (a+1)=true by simpa using iL) oz oz oz (by simpa using sO) oz (by first|(simp only [decide_eq_true_eq];omega)|(simp only [Bool.false_eq_true,false_iff];omega)) rfl rfl rfl)⟩))
theorem IG (p:ByteArray) (aI:Int) (a:Nat) (w:World) (rT:cP eM w (some ⟨0,0,none⟩) qu 64) (uj:aI=((a:Nat):Int)) (lw:Laid w) (hp:p.size≤200) (ha:a<p.size):
 Calls Tryz.prog 79 #[.string p,ai aI] w (aX fun v w'=>∃t:Tk,∃nx,∃ok:Bool,v= .tuple #[.agg #[ai t.kind,ai t.pos,aj t.set.w0,aj t.set.w1,aj t.set.w2,aj t.set.w3,ai t.lo,ai t.hi],ai nx,.bool ok]∧ax w [] w' []∧(fB p a t nx ok)):=by
 subst uj
 have jC:=rT.le
 refine cH Tryz.func79 (h:=fun H0=>ab 2 (h:=dB H0 (k:=fun w1 H1=>ab 7 (h:=cu (us:=[ai 0,b7 a,aj Bs.zero.w0,aj Bs.zero.w1,aj Bs.zero.w2,aj Bs.zero.w3,ai 0,ai 0]) (k:=aY 0 (h:=bL H1 0 (k:=fun w2 H2=>ab 5 (h:=aV (k:=?_)))))))))
 have HA:=cn p a
 refine ab 9 (h:=iV a (k:=aC 9 (fun aew=>?_) fun aew=>?_))
 exact aY 2 (h:=jV H2 0 (k:=fun w3 H3=>ab 5 (h:=cd (H3.b 0) (k:=aY 2 (h:=bL H3 0 (k:=fun w4 H4=>xB 5 (h1:=cS (H4.b 0)) (h2:=dc) (h3:=dc) (h:=⟨(⟨2,((a:Nat):Int),Bs.zero,0,0⟩:Tk),((a:Nat):Int)+1,true,rfl,H4.af,(dh oz (by unfold iB;(repeat (first|rw [if_pos oz]|rw [if_neg oz]));exact ⟨rfl,rfl,rfl⟩))⟩)))))))
 refine aC 6 (fun UR=>?_) fun UR=>?_
 exact aY 2 (h:=jV H2 0 (k:=fun w5 H5=>ab 5 (h:=cd (H5.b 0) (k:=aY 2 (h:=bL H5 0 (k:=fun w6 H6=>xB 5 (h1:=cS (H6.b 0)) (h2:=dc) (h3:=dc) (h:=⟨(⟨3,((a:Nat):Int),Bs.zero,0,0⟩:Tk),((a:Nat):Int)+1,true,rfl,H6.af,(dh oz (by unfold iB;(repeat (first|rw [if_pos oz]|rw [if_neg oz]));exact ⟨rfl,rfl,rfl⟩))⟩)))))))
 refine aC 6 (fun aev=>?_) fun aev=>?_
 exact aY 2 (h:=jV H2 0 (k:=fun w7 H7=>ab 5 (h:=cd (H7.b 0) (k:=aY 2 (h:=bL H7 0 (k:=fun w8 H8=>xB 5 (h1:=cS (H8.b 0)) (h2:=dc) (h3:=dc) (h:=⟨(⟨4,((a:Nat):Int),Bs.zero,0,0⟩:Tk),((a:Nat):Int)+1,true,rfl,H8.af,(dh oz (by unfold iB;(repeat (first|rw [if_pos oz]|rw [if_neg oz]));exact ⟨rfl,rfl,rfl⟩))⟩)))))))
 refine aC 6 (fun Gc=>?_) fun Gc=>?_
 exact aY 2 (h:=jV H2 0 (k:=fun w9 H9=>ab 5 (h:=cd (H9.b 0) (k:=aY 2 (h:=bL H9 0 (k:=fun iy bW=>xB 5 (h1:=cS (bW.b 0)) (h2:=dc) (h3:=dc) (h:=⟨(⟨6,((a:Nat):Int),Bs.zero,0,0⟩:Tk),((a:Nat):Int)+1,true,rfl,bW.af,(dh oz (by unfold iB;(repeat (first|rw [if_pos oz]|rw [if_neg oz]));exact ⟨rfl,rfl,rfl⟩))⟩)))))))
 refine aC 6 (fun aet=>?_) fun aet=>?_
 exact aY 2 (h:=jV H2 0 (k:=fun gS bP=>ab 5 (h:=cd (bP.b 0) (k:=aY 2 (h:=bL bP 0 (k:=fun jz ck=>xB 5 (h1:=cS (ck.b 0)) (h2:=dc) (h3:=dc) (h:=⟨(⟨7,((a:Nat):Int),Bs.zero,0,0⟩:Tk),((a:Nat):Int)+1,true,rfl,ck.af,(dh oz (by unfold iB;(repeat (first|rw [if_pos oz]|rw [if_neg oz]));exact ⟨rfl,rfl,rfl⟩))⟩)))))))
 refine aC 6 (fun NZ=>?_) fun NZ=>?_
 exact aY 2 (h:=jV H2 0 (k:=fun kK cU=>aY 1 (h:=jV cU 0 (k:=fun nH cN=>ab 5 (h:=cd (cN.b 0) (k:=aY 2 (h:=bL cN 0 (k:=fun tU dt=>xB 5 (h1:=cS (dt.b 0)) (h2:=dc) (h3:=dc) (h:=⟨(⟨5,((a:Nat):Int),Bs.zero,0,-1⟩:Tk),((a:Nat):Int)+1,true,rfl,dt.af,(dh oz (by unfold iB;(repeat (first|rw [if_pos oz]|rw [if_neg oz]));exact ⟨rfl,rfl,rfl⟩))⟩)))))))))
 refine aC 6 (fun UP=>?_) fun UP=>?_
 exact aY 2 (h:=jV H2 0 (k:=fun ur dw=>aY 1 (h:=jV dw 0 (k:=fun xq fH=>aY 1 (h:=jV fH 0 (k:=fun zn il=>ab 5 (h:=cd (il.b 0) (k:=aY 2 (h:=bL il 0 (k:=fun zm jh=>cv 4 [6,5,4] (h:=xB 1 (h1:=cS (jh.b 0)) (h2:=dc) (h3:=dc) (h:=⟨(⟨5,((a:Nat):Int),Bs.zero,1,-1⟩:Tk),((a:Nat):Int)+1,true,rfl,jh.af,(dh oz (by unfold iB;(repeat (first|rw [if_pos oz]|rw [if_neg oz]));exact ⟨rfl,rfl,rfl⟩))⟩))))))))))))
 refine aC 6 (fun NY=>?_) fun NY=>?_
 exact aY 2 (h:=jV H2 0 (k:=fun Ix eH=>aY 1 (h:=jV eH 0 (k:=fun Q9 lf=>ab 5 (h:=cd (lf.b 0) (k:=aY 2 (h:=bL lf 0 (k:=fun Oo ji=>cv 4 [6,5,4] (h:=xB 1 (h1:=cS (ji.b 0)) (h2:=dc) (h3:=dc) (h:=⟨(⟨5,((a:Nat):Int),Bs.zero,0,1⟩:Tk),((a:Nat):Int)+1,true,rfl,ji.af,(dh oz (by unfold iB;(repeat (first|rw [if_pos oz]|rw [if_neg oz]));exact ⟨rfl,rfl,rfl⟩))⟩))))))))))
 refine aC 6 (fun aer=>?_) fun aer=>?_
 refine aY 3 (h:=jV H2 0 (k:=fun Om oI=>cv 2 [6,5,4,0,1] (h:=ab 3 (h:=aA (c:=Ex _ _ a Om oz oz oz) (k:=?_)))))
 rintro _ Ol ⟨Px,PW,eB,gQ,rfl,u24,Tj⟩
 have nF:=oI.call u24
 exact aY 6 (h:=jV nF 0 (k:=fun Q8 nE=>aY 1 (h:=jV nE 0 (k:=fun V9 pM=>ab 7 (h:=cd (pM.b 0) (k:=aY 2 (h:=bL pM 0 (k:=fun Sn pL=>xB 5 (h1:=cS (pL.b 0)) (h2:=dc) (h3:=dc) (h:=⟨(⟨5,((a:Nat):Int),Bs.zero,Px,PW⟩:Tk),eB,gQ,rfl,pL.af,(GB oz Tj rfl)⟩)))))))))
 refine cv 6 [63,14,6,5,4,0,1] (h:=aC 0 (fun NX=>?_) fun NX=>?_)
 refine aY 3 (h:=jV H2 0 (k:=fun Sm rW=>ab 5 (h:=aA (c:=DD _ _ a Sm (rT.at rW) oz (lw.at rW) oz oz) (k:=?_))))
 rintro _ ZU ⟨nG,zP,Ch,rfl,u29,CX⟩
 have tS:=rW.call u29
 exact aY 5 (h:=bL tS 0 (k:=fun w30 pK=>ab 7 (h:=cd (pK.b 0) (k:=aY 2 (h:=bL pK 0 (k:=fun w31 mf=>xB 5 (h1:=cS (mf.b 0)) (h2:=dc) (h3:=dc) (h:=⟨(⟨1,((a:Nat):Int),nG,0,0⟩:Tk),zP,Ch,rfl,mf.af,(mu oz CX rfl)⟩)))))))
 refine aC 6 (fun aep=>?_) fun aep=>?_
 refine ab 1 (h:=aA (c:=Qm w2) (k:=?_))
 rintro _ w32 ⟨rfl,u32⟩
 have rV:=H2.call u32
 exact aY 1 (h:=jV rV 0 (k:=fun w33 pY=>aY 1 (h:=bL pY 0 (k:=fun w34 xV=>ab 5 (h:=cd (xV.b 0) (k:=aY 2 (h:=bL xV 0 (k:=fun w35 qF=>xB 5 (h1:=cS (qF.b 0)) (h2:=dc) (h3:=dc) (h:=⟨(⟨1,((a:Nat):Int),fF (fZ [10]),0,0⟩:Tk),((a:Nat):Int)+1,true,rfl,qF.af,(dh oz (by unfold iB;(repeat (first|rw [if_pos oz]|rw [if_neg oz]));exact ⟨rfl,rfl,rfl⟩))⟩)))))))))
 refine aC 6 (fun aeo=>?_) fun aeo=>?_
 refine aY 3 (h:=jV H2 0 (k:=fun w36 A5=>ab 4 (h:=dB A5 (k:=fun w37 Bh=>ab 6 (h:=aA (c:=HK _ _ a w37 (rT.at Bh) oz oz oz) (k:=?_))))))
 rintro _ w38 ⟨Oj,ud,SU,abA,rfl,u38,nA,ry⟩
 have xg:=Bh.call u38
 refine aY 3 (h:=bL xg 1 (k:=fun w39 Iq=>fI 3 Iq (h:=fun w40 Gm=>c7 1 1 (Gm.b 1) (D:=fun _ hC=>cd hC) (h:=c7 1 3 (Gm.b 1) (D:=fun _ hC=>aM hC) (h:=dj 1 5 (D:=bL Gm 0 (k:=fun w41 OJ=>?_)))))))
 refine ⟨⟨(OJ.b 1),trivial,trivial⟩,?_⟩
 exact ab 6 (h:=cd (OJ.b 0) (k:=aY 2 (h:=bL OJ 0 (k:=fun w42 Sh=>xB 5 (h1:=cS (Sh.b 0)) (h2:=dc) (h3:=dc) (h:=⟨(⟨1,((a:Nat):Int),Oj,0,0⟩:Tk),SU,abA,rfl,Sh.af,(mi oz nA rfl)⟩)))))
 refine ab 3 (h:=iV a (k:=ab 0 (h:=dL eM [bn p a] H2 (k:=fun w43 Sg=>ab 0 (h:=aA (c:=mD _ [bn p a] _ ([bn p a].length) w43 (Sg.rt 1) (by intro x hx;simp at hx;have:=cn p a;omega)) (k:=?_))))))
 rintro _ w44 ⟨rfl,u43⟩
 have Vm:=Sg.call u43
 exact aY 1 (h:=jV Vm 0 (k:=fun w45 Vl=>aY 1 (h:=bL Vl 0 (k:=fun w46 Sf=>ab 5 (h:=cd (Sf.b 0) (k:=aY 2 (h:=bL Sf 0 (k:=fun w47 Se=>xB 5 (h1:=cS (Se.b 0)) (h2:=dc) (h3:=dc) (h:=⟨(⟨1,((a:Nat):Int),fZ [bn p a],0,0⟩:Tk),((a:Nat):Int)+1,true,rfl,Se.af,(dh oz (by unfold iB;(repeat (first|rw [if_pos oz]|rw [if_neg oz]));exact ⟨rfl,rfl,rfl⟩))⟩)))))))))
theorem Eg (p:ByteArray) (w:World) (rT:cP eM w (some ⟨0,0,none⟩) qu 64) (lw:Laid w):
 Calls Tryz.prog 53 #[.string p] w (aX fun v w'=>∃a2 c2,∃o:List Tk,∃at_ er,v= .tuple #[aH a2 o c2,ai at_,ai er]∧ax w [] w' [cE dC 131 a2 o c2]∧(eu p ⟨o,at_,er⟩)∧(o.length≤200)):=by
 have jC:=rT.le
 refine cH Tryz.func53 (h:=fun H0=>aC 15 (fun NW=>?_) fun NW=>?_)
 exact mA 8 (h:=⟨none,0,[],0,4,rfl,eC H0,(yb oz),(Nat.zero_le _)⟩)
 have H1:=H0.nr dC 131
 refine dA 14 [6,5,4,3,2,0] (fun B R L m e v=>∃aI,∃o:List Tk,∃oa oc,e=(6,ai aI)::(5,aH oa o oc)::B∧av w L v ([cE dC 131 oa o oc]::R)∧(0≤aI∧aI≤p.size)∧(∀r,iP p (Int.toNat aI) o r→iP p 0 [] r)∧(o.length≤Int.toNat aI)∧m=p.size-Int.toNat aI) (i:=⟨0,([]:List Tk),none,0,rfl,H1,oz,(by exact fun r h=>h),(by simp),rfl⟩) (h:=?_)
 rintro m1 Γ1 w1 ⟨aI,o,oa,oc,rfl,H2,hi0,hI,Fx,rfl⟩
 refine aC 9 (fun aek=>?_) fun aek=>?_
 refine ab 7 (h:=aA (c:=IG _ _ aI.toNat w1 (rT.at H2) oz (lw.at H2) oz oz) (k:=?_))
 rintro _ w2 ⟨Wj,eB,gQ,rfl,u1,MG⟩
 have H3:=H2.call u1
 refine ab 4 (h:=dB H3 (k:=fun w3 H4=>aY 0 (h:=bL H4 1 (k:=fun w4 H5=>dv 11 (fun UM=>?_) fun UM=>?_))))
 exact mA 9 (h:=⟨none,0,[],aI,3,rfl,eC H5,(Bx oz oz oz hI ((show gQ=false by simpa using UM)▸MG)),(Nat.zero_le _)⟩)
 have iu:=x9 oz oz hI ((show gQ=true by simpa using UM)▸MG)
 refine ab 5 (h:=cd (H5.b 1) (k:=ab 0 (h:=dL dC ([Wj]:List Tk) H5 (k:=fun w5 H6=>ab 0 (h:=kJ H6 0 (H6.rt 2) (k:=fun a1 c1 w6 Vi=>?_))))))
 have H7:=(Vi.drop 2).no
 exact cm 8 (h:=by exact ⟨eB,o++([Wj]:List Tk),a1,c1,rfl,(H7.pm [0] rfl rfl),oz,(by exact iu.1),im,rfl⟩)
 exact mA 11 (h:=⟨oa,oc,o,0,0,rfl,H2.kM 0,(yd oz oz hI),oz⟩)
theorem GV (p:ByteArray) (aI:Int) (a:Nat) (w:World) (uj:aI=((a:Nat):Int)) (hp:p.size≤200) (ha:a<p.size):
 Calls Tryz.prog 93 #[.string p,ai aI] w (aX fun v w'=>∃x:Bs,∃nx,∃ok:Bool,∃nm:Bool,v= .agg #[aj x.w0,aj x.w1,aj x.w2,aj x.w3,ai nx,.bool ok,.bool nm]∧ax w [] w' []∧(Is (fo p a) ok (xY none x nx))∧(nm=false)∧(0≤nx∧nx≤1000)):=by
 subst uj
 refine cH Tryz.func93 (h:=fun H0=>ab 2 (h:=dB H0 (k:=fun w1 H1=>?_)))
 have JR:=cn p (a+1)
 have xm:=cn p (a+2)
 have P4:=cn p (a+3)
 have KB:=ql xm
 have hx3:=ql P4
 refine ab 6 (h:=aV (k:=aC 5 (fun QH=>?_) fun QH=>?_))
 exact ab 2 (h:=cu (us:=[aj Bs.zero.w0,aj Bs.zero.w1,aj Bs.zero.w2,aj Bs.zero.w3,ai 0,.bool false,.bool false]) (k:=aY 0 (h:=bL H1 0 (k:=fun w2 H2=>pO 3 (h1:=cS (H2.b 0)) (h:=⟨Bs.zero,0,false,false,rfl,H2.af,(Is.no (y4 oz)),rfl,oz⟩)))))
 refine ab 7 (h:=aV (k:=ab 0 (h:=iV (a+1) (k:=aC 3 (fun Du=>?_) fun Du=>?_))))
 refine ab 4 (h:=aV (h1:=(by first|omega|exact jP (cn _ _))) (h2:=(by first|omega|exact jP (cn _ _))) (k:=ab 0 (h:=iV (a+1) (k:=ab 0 (h:=jd (h:=(by first|omega|exact jP (cn _ _))) (k:=ab 0 (h:=aA (c:=Ly (bn p (a+1)) w1) (k:=?_))))))))
 rintro _ w3 ⟨rfl,u3⟩
 have H3:=H1.call u3
 exact ab 3 (h:=dB H3 (k:=fun w4 H4=>aY 0 (h:=bL H4 1 (k:=fun w5 H5=>ab 5 (h:=cd (H5.b 1) (k:=ab 1 (h:=aV (k:=ab 1 (h:=cu (us:=[aj (cJ (ju (bn p (a+1)))).w0,aj (cJ (ju (bn p (a+1)))).w1,aj (cJ (ju (bn p (a+1)))).w2,aj (cJ (ju (bn p (a+1)))).w3,ai (((a:Nat):Int)+2),.bool (decide (cJ (ju (bn p (a+1)))≠Bs.zero)),.bool false]) (k:=aY 0 (h:=bL H5 0 (k:=fun w6 H6=>pO 3 (h1:=cS (H6.b 0)) (h:=⟨(cJ (ju (bn p (a+1)))),((a:Nat):Int)+2,decide (cJ (ju (bn p (a+1)))≠Bs.zero),false,rfl,H6.af,(O8 oz oz rfl),rfl,oz⟩)))))))))))))
 refine ab 6 (h:=aV (k:=b9 4 38 (fun g55=>?_) fun g55=>?_))
 exact cv 17 [53,4,0,1] (h:=ab 3 (h:=cu (us:=[aj Bs.zero.w0,aj Bs.zero.w1,aj Bs.zero.w2,aj Bs.zero.w3,ai 0,.bool false,.bool false]) (k:=aY 0 (h:=bL H1 0 (k:=fun w7 H7=>pO 3 (h1:=cS (H7.b 0)) (h:=⟨Bs.zero,0,false,false,rfl,H7.af,(Is.no (zF oz oz)),rfl,oz⟩))))))
 refine ab 2 (h:=aV (k:=ab 0 (h:=iV (a+2) (k:=ab 0 (h:=aA (c:=nX (bn p (a+2)) w1 (cn _ _)) (k:=?_))))))
 rintro _ w8 ⟨rfl,u8⟩
 have H8:=H1.call u8
 refine b9 3 46 (fun adn=>?_) fun adn=>?_
 exact cv 9 [53,4,0,1] (h:=ab 3 (h:=cu (us:=[aj Bs.zero.w0,aj Bs.zero.w1,aj Bs.zero.w2,aj Bs.zero.w3,ai 0,.bool false,.bool false]) (k:=aY 0 (h:=bL H8 0 (k:=fun w9 H9=>pO 3 (h1:=cS (H9.b 0)) (h:=⟨Bs.zero,0,false,false,rfl,H9.af,(Is.no (zF oz oz)),rfl,oz⟩))))))
 refine ab 2 (h:=aV (k:=ab 0 (h:=iV (a+3) (k:=ab 0 (h:=aA (c:=nX (bn p (a+3)) w8 (cn _ _)) (k:=?_))))))
 rintro _ iy ⟨rfl,uU⟩
 have bW:=H8.call uU
 refine cv 4 [53,4,0,1] (h:=aC 0 (fun Y9=>?_) fun Y9=>?_)
 exact ab 2 (h:=cu (us:=[aj Bs.zero.w0,aj Bs.zero.w1,aj Bs.zero.w2,aj Bs.zero.w3,ai 0,.bool false,.bool false]) (k:=aY 0 (h:=bL bW 0 (k:=fun gS bP=>pO 3 (h1:=cS (bP.b 0)) (h:=⟨Bs.zero,0,false,false,rfl,bP.af,(Is.no (zF oz oz)),rfl,oz⟩)))))
 refine fI 3 bW (h:=fun jz ck=>gk 2 2 (D:=fun _=>aV) (h:=gk 0 3 (D:=fun _=>iV (a+2)) (h:=gk 2 8 (D:=fun _=>aV) (h:=gk 0 9 (D:=fun _=>iV (a+3)) (h:=dj 0 4 (D:=aA (c:=nX (bn p (a+2)) jz (cn _ _)) (k:=?_)))))))
 rintro _ kK ⟨rfl,tV⟩
 have cU:=ck.call tV
 refine ⟨⟨trivial,trivial,trivial,trivial,trivial⟩,?_⟩
 refine gk 0 5 (D:=fun _=>Ha) (h:=dj 0 10 (D:=aA (c:=nX (bn p (a+3)) kK (cn _ _)) (k:=?_)))
 rintro _ nH ⟨rfl,zu⟩
 have cN:=cU.call zu
 refine ⟨⟨trivial,trivial⟩,?_⟩
 refine gk 0 11 (D:=fun _=>aV) (h:=ab 7 (h:=aA (c:=gD _ ((((dJ (bn p (a+2)))*16)+(dJ (bn p (a+3)))).toNat) _ ((((dJ (bn p (a+2)))*16)+(dJ (bn p (a+3)))).toNat) nH oz oz oz oz) (k:=?_)))
 rintro _ tU ⟨rfl,OO⟩
 have dt:=cN.call OO
 exact ab 1 (h:=aV (k:=ab 0 (h:=cu (k:=aY 0 (h:=bL dt 0 (k:=fun ur dw=>pO 3 (h1:=cS (dw.b 0)) (h:=⟨(bG ((((dJ (bn p (a+2)))*16)+(dJ (bn p (a+3)))).toNat) ((((dJ (bn p (a+2)))*16)+(dJ (bn p (a+3)))).toNat)),((a:Nat):Int)+4,true,false,rfl,dw.af,(Lu oz oz oz oz rfl),rfl,oz⟩)))))))
theorem GN (p:ByteArray) (aI:Int) (a:Nat) (w:World) (uj:aI=((a:Nat):Int)) (hp:p.size≤200) (ha:a<p.size):
 Calls Tryz.prog 134 #[.string p,ai aI] w (aX fun v w'=>∃x:Bs,∃nx,∃ok:Bool,∃nm:Bool,v= .agg #[aj x.w0,aj x.w1,aj x.w2,aj x.w3,ai nx,.bool ok,.bool nm]∧ax w [] w' []∧(Is (dS p a) ok (l7 none (some nm) x nx))∧(0≤nx∧nx≤1000)):=by
 subst uj
 refine cH Tryz.func134 (h:=fun H0=>ab 2 (h:=dB H0 (k:=fun w1 H1=>ab 7 (h:=iV a (k:=aC 3 (fun QG=>?_) fun QG=>?_)))))
 refine ab 4 (h:=aA (c:=GV _ _ a w1 oz oz oz) (k:=?_))
 rintro _ w2 ⟨nG,eB,gQ,rf,rfl,u2,nA,XL,ry⟩
 have H2:=H1.call u2
 exact aY 0 (h:=bL H2 0 (k:=fun w3 H3=>pO 3 (h1:=cS (H3.b 0)) (h:=⟨nG,eB,gQ,rf,rfl,H3.af,(by rw [XL];exact BI oz nA),oz⟩)))
 refine o9 3 [4,0,1] 0 H1 (fun B R L e v=>∃q:Bool,e=(33,.bool q)::B∧av w L v (R)∧(q=named p a)) ?_ ?_
 refine ab 3 (h:=iV a (k:=b9 2 20 (fun g67=>?_) fun g67=>?_))
 refine ab 1 (h:=aV (k:=b9 5 27 (fun adl=>?_) fun adl=>?_))
 exact ab 2 (h:=aV (k:=ab 0 (h:=iV (a+1) (k:=cA 3 (h:=by exact ⟨decide (((bn p (a+1):Nat):Int)=(58:Int)),rfl,H1,(by unfold named;rw [Bool.eq_iff_iff];simp only [Bool.and_eq_true,decide_eq_true_eq,Bool.false_eq_true,false_iff,true_iff];omega)⟩)))))
 exact cA 7 (h:=by exact ⟨false,rfl,H1,(by unfold named;rw [Bool.eq_iff_iff];simp only [Bool.and_eq_true,decide_eq_true_eq,Bool.false_eq_true,false_iff,true_iff];omega)⟩)
 exact cA 14 (h:=by exact ⟨false,rfl,H1,(by unfold named;rw [Bool.eq_iff_iff];simp only [Bool.and_eq_true,decide_eq_true_eq,Bool.false_eq_true,false_iff,true_iff];omega)⟩)
 rintro Γ1 w4 ⟨q,rfl,H4,hq⟩
 refine dv 0 (fun KJ=>?_) fun KJ=>?_
 have CS:named p a=true:=by rw [←hq];exact KJ
 have D3:=gH CS
 refine ab 4 (h:=aV (k:=dA 4 [5,4,0,1] (fun B R L m e v=>∃k,e=(5,b7 k)::B∧av w L v (R)∧(a+2≤k∧k≤p.size)∧(∀j,a+2≤j→j<k→iw p (a+2) j=false)∧m=p.size-k) (i:=⟨a+2,rfl,H4,oz,(by intro j h1 h2;omega),rfl⟩) (h:=?_)))
 rintro m1 Γ2 w5 ⟨k,rfl,H5,hk,hn,rfl⟩
 have CS:named p a=true:=by rw [←hq];exact KJ
 have D3:=gH CS
 refine ab 4 (h:=aV (k:=aC 5 (fun Ga=>?_) fun Ga=>?_))
 refine ab 8 (h:=iV k (k:=b9 2 47 (fun HE=>?_) fun HE=>?_))
 refine ab 2 (h:=aV (k:=ab 0 (h:=iV (k+1) (k:=aC 4 (fun Kd=>?_) fun Kd=>?_))))
 have hci:cutAt p (a+2)=some k:=wG (by unfold iw;rw [decide_eq_true_eq];omega) hn
 refine ab 4 (h:=aV (k:=?_))
 refine aN 1 rfl (lZ (((a:Nat):Int)+2) ((k:Nat):Int) (a+2) k Tryz.underlying9 rfl rfl rfl (.inr ⟨_,rfl⟩) (.inr ⟨_,rfl⟩) oz oz ⟨by omega,by omega,by omega⟩ (ab 0 (h:=aA (c:=EB _ w5) (k:=?_))))
 rintro _ w6 ⟨rfl,u4⟩
 have H6:=H5.call u4
 exact ab 3 (h:=dB H6 (k:=fun w7 H7=>aY 0 (h:=bL H7 1 (k:=fun w8 H8=>cv 3 [7,6,5,4] (h:=ab 2 (h:=cd (H8.b 1) (k:=ab 1 (h:=aV (k:=ab 1 (h:=cu (k:=aY 0 (h:=bL H8 0 (k:=fun w9 H9=>pO 3 (h1:=cS (H9.b 0)) (h:=⟨(cJ (dI (p.extract (a+2) k))),((k:Nat):Int)+2,isOk (p.extract (a+2) k),true,rfl,H9.af,(Eo CS hci rfl rfl),oz⟩))))))))))))))
 have CS:named p a=true:=by rw [←hq];exact KJ
 have D3:=gH CS
 exact ab 5 (h:=aV (k:=cm 2 (h:=by exact ⟨k+1,rfl,H5,oz,(by intro j h1 h2;exact (Nat.lt_or_ge j k).elim (hn j h1) (fun h9=>by (obtain rfl:j=k:=by omega);unfold iw;rw [decide_eq_false_iff_not];omega)),rfl⟩)))
 have CS:named p a=true:=by rw [←hq];exact KJ
 have D3:=gH CS
 exact ab 14 (h:=aV (k:=cm 2 (h:=by exact ⟨k+1,rfl,H5,oz,(by intro j h1 h2;exact (Nat.lt_or_ge j k).elim (hn j h1) (fun h9=>by (obtain rfl:j=k:=by omega);unfold iw;rw [decide_eq_false_iff_not];omega)),rfl⟩)))
 exact ab 4 (h:=cu (us:=[aj Bs.zero.w0,aj Bs.zero.w1,aj Bs.zero.w2,aj Bs.zero.w3,ai 0,.bool false,.bool false]) (k:=aY 0 (h:=bL H5 0 (k:=fun iy bW=>pO 3 (h1:=cS (bW.b 0)) (h:=⟨Bs.zero,0,false,false,rfl,bW.af,(Is.no (IT CS (wH fun j h1 h2=>hn j h1 oz))),oz⟩)))))
 have CS:¬named p a=true:=by rw [←hq];exact KJ
 have HA:=cn p a
 refine ab 6 (h:=iV a (k:=ab 0 (h:=jd (h:=(by first|omega|exact jP (cn _ _))) (k:=ab 7 (h:=aA (c:=gD _ (bn p a) _ (bn p a) w4 oz oz oz oz) (k:=?_))))))
 rintro _ gS ⟨rfl,u9⟩
 have bP:=H4.call u9
 exact ab 1 (h:=aV (k:=ab 0 (h:=cu (k:=aY 0 (h:=bL bP 0 (k:=fun jz ck=>pO 3 (h1:=cS (ck.b 0)) (h:=⟨(bG (bn p a) (bn p a)),((a:Nat):Int)+1,true,false,rfl,ck.af,(yl oz CS (range_one HA) (fun o ho=>by cases ho) rfl),oz⟩)))))))
theorem LD (p:ByteArray) (aI:Int) (a:Nat) (w:World) (uj:aI=((a:Nat):Int)) (hp:p.size≤200) (ha:a<p.size):
 Calls Tryz.prog 92 #[.string p,ai aI] w (aX fun v w'=>∃x:Bs,∃nx,∃ok:Bool,∃nm:Bool,v= .agg #[aj x.w0,aj x.w1,aj x.w2,aj x.w3,ai nx,.bool ok,.bool nm]∧ax w [] w' []∧(∃r,s9 p a r∧Is r ok (A4 x nx))):=by
 subst uj
 have pU:=zg ha
 refine cH Tryz.func92 (h:=fun H0=>ab 2 (h:=dB H0 (k:=fun w1 H1=>ab 5 (h:=aV (k:=o9 3 [5,4,0] 0 H1 (fun B R L e v=>∃nt:Bool,e=(6,.bool nt)::B∧av w L v (R)∧(nt=nB p a)) ?_ ?_)))))
 refine b9 6 17 (fun g83=>?_) fun g83=>?_
 exact ab 2 (h:=iV (a+1) (k:=cA 4 (h:=by exact ⟨decide (((bn p (a+1):Nat):Int)=(94:Int)),rfl,H1,(by unfold nB;rw [Bool.eq_iff_iff];simp only [Bool.and_eq_true,decide_eq_true_eq,Bool.false_eq_true,false_iff,true_iff];omega)⟩)))
 exact cA 7 (h:=by exact ⟨false,rfl,H1,(by unfold nB;rw [Bool.eq_iff_iff];simp only [Bool.and_eq_true,decide_eq_true_eq,Bool.false_eq_true,false_iff,true_iff];omega)⟩)
 rintro Γ1 w2 ⟨nt,rfl,H2,PQ⟩
 refine o9 0 [6,4,0] 0 H2 (fun B R L e v=>∃iI,e=(5,ai iI)::B∧av w L v (R)∧(iI=fp p a)) ?_ ?_
 refine dv 5 (fun UD=>?_) fun UD=>?_
 exact ab 2 (h:=aV (k:=cA 2 (h:=by exact ⟨(((a:Nat):Int)+1)+1,rfl,H2,(by unfold fp;rw [←PQ];first|rw [if_pos UD];omega|rw [if_neg UD];omega)⟩)))
 exact cA 1 (h:=by exact ⟨((a:Nat):Int)+1,rfl,H2,(by unfold fp;rw [←PQ];first|rw [if_pos UD];omega|rw [if_neg UD];omega)⟩)
 rintro Γ2 w3 ⟨iI,rfl,H3,hif⟩
 refine ab 2 (h:=dB H3 (k:=fun w4 H4=>?_))
 have H5:=H4.ps [1,0]
 refine dA 4 [5,7,6,4,0] (fun B R L m e v=>∃iI,∃r:Bs,e=(5,ai iI)::B∧av w L v ([aQ w3.heap.size #[aj r.w0,aj r.w1,aj r.w2,aj r.w3] 87]::R)∧(0≤iI∧iI≤p.size)∧(∀q,uo p iI.toNat r q→uo p (fp p a) Bs.zero q)∧m=p.size-Int.toNat iI) (i:=⟨iI,Bs.zero,rfl,H5,oz,(by rw [hif];exact fun q h=>h),rfl⟩) (h:=?_)
 rintro m1 Γ3 w5 ⟨vV,r,rfl,H6,hi0,hI,rfl⟩
 refine aC 9 (fun c88=>?_) fun c88=>?_
 refine ab 8 (h:=iV vV.toNat (cD:=oz) (k:=aC 3 (fun Y4=>?_) fun Y4=>?_))
 refine dv 6 (fun QE=>?_) fun QE=>?_
 refine ab 1 (h:=cd (H6.b 0) (k:=ab 0 (h:=aA (c:=BP r w5) (k:=?_))))
 rintro _ w6 ⟨rfl,u3⟩
 have H7:=H6.call u3
 exact aY 0 (h:=bL H7 0 (k:=fun w7 H8=>ab 4 (h:=cd (H8.b 0) (k:=ab 1 (h:=aV (k:=ab 0 (h:=cu (k:=aY 0 (h:=bL H8 1 (k:=fun w8 H9=>pO 3 (h1:=cS (H9.b 1)) (h:=⟨(fF r),vV+1,true,false,rfl,H9.af,(uN hI oz ⟨fun _=>by omega,fun _=>rfl⟩ (by unfold wW;rw [←PQ];first|rw [if_pos QE]|rw [if_neg QE]) oz)⟩)))))))))))
 exact ab 4 (h:=cd (H6.b 0) (k:=ab 1 (h:=aV (k:=ab 0 (h:=cu (k:=aY 0 (h:=bL H6 1 (k:=fun w9 bW=>pO 3 (h1:=cS (bW.b 1)) (h:=⟨r,vV+1,true,false,rfl,bW.af,(uN hI oz ⟨fun _=>by omega,fun _=>rfl⟩ (by unfold wW;rw [←PQ];first|rw [if_pos QE]|rw [if_neg QE]) oz)⟩)))))))))
 refine ab 6 (h:=aA (c:=GN _ _ vV.toNat w5 oz oz oz) (k:=?_))
 rintro _ iy ⟨nG,eB,gQ,rf,rfl,u7,Ak,ry⟩
 have bP:=H6.call u7
 refine ab 0 (h:=dB bP (k:=fun gS ck=>aY 0 (h:=bL ck 2 (k:=fun jz cU=>ab 6 (h:=aM (cU.b 2) (k:=dv 3 (fun sV=>?_) fun sV=>?_))))))
 exact ab 2 (h:=cu (us:=[aj Bs.zero.w0,aj Bs.zero.w1,aj Bs.zero.w2,aj Bs.zero.w3,ai 0,.bool false,.bool false]) (k:=aY 0 (h:=bL cU 1 (k:=fun kK cN=>pO 3 (h1:=cS (cN.b 1)) (h:=⟨Bs.zero,0,false,false,rfl,cN.af,(uO hI oz oz (GZ (Ak.f (by rw [show gQ=false by simpa using sV];decide))))⟩)))))
 have D1:Is (dS p vV.toNat) true (l7 none (some rf) nG eB):=(show gQ=true by simpa using sV)▸Ak
 have ho1:=Cc nG rf
 refine ab 5 (h:=aM (cU.b 2) (k:=?_))
 have dt:=cU.ps [2,0,1]
 refine o9 3 [8,7,6,4,0] 1 dt (fun B R L e v=>∃x2:Bs,∃Ow,∃ok2:Bool,∃Kz:Bool,e=B∧av w L v ([aQ iy.heap.size #[aj x2.w0,aj x2.w1,aj x2.w2,aj x2.w3,ai Ow,.bool ok2,.bool Kz] 168]::R)∧(iY p vV.toNat=some (x2,Ow.toNat))∧(0≤Ow)) ?_ ?_
 refine ab 2 (h:=cd (dt.b 0) (k:=ab 0 (h:=aA (c:=nT nG _ gQ rf jz) (k:=?_))))
 rintro _ nH ⟨rfl,xr⟩
 have dw:=dt.call xr
 refine b9 2 53 (fun adM=>?_) fun adM=>?_
 refine ab 1 (h:=aV (k:=b9 5 60 (fun YG=>?_) fun YG=>?_))
 refine ab 2 (h:=iV eB.toNat (cD:=oz) (k:=b9 3 66 (fun Ua=>?_) fun Ua=>?_))
 refine ab 2 (h:=aV (k:=ab 0 (h:=iV ((eB+1).toNat) (cD:=oz) (k:=cv 4 [72,9,8,7,6,4,0] (h:=aC 0 (fun lB=>?_) fun lB=>?_)))))
 refine ab 4 (h:=aV (k:=ab 0 (h:=aA (c:=GN _ _ ((eB+1).toNat) nH oz oz oz) (k:=?_))))
 rintro _ tU ⟨Oj,zP,Ch,Jq,rfl,tV,Fv,acp⟩
 have fH:=dw.call tV
 refine ab 0 (h:=dB fH (k:=fun ur il=>aY 0 (h:=bL il 3 (k:=fun xq jh=>?_))))
 have VI:=Cc Oj Jq
 refine fI 4 jh (h:=fun zn eH=>c7 1 1 (eH.b 3) (D:=fun _ hC=>aM hC) (h:=yA 2 80 (fun JX=>?_) fun JX=>?_))
 refine ab 11 (h:=cu (us:=[aj Bs.zero.w0,aj Bs.zero.w1,aj Bs.zero.w2,aj Bs.zero.w3,ai 0,.bool false,.bool false]) (k:=aY 0 (h:=bL eH 2 (k:=fun zm lf=>pO 3 (h1:=cS (lf.b 2)) (h:=?_)))))
 have e2:=sh D1 ⟨by omega,by omega,by omega,by omega⟩ Fv
 first|rw [if_pos (by simpa using JX),if_pos oz] at e2|rw [if_neg (by simpa using JX)] at e2
 exact ⟨Bs.zero,0,false,false,rfl,lf.af,(uO hI oz oz e2)⟩
 refine c7 0 4 (eH.b 3) (D:=fun _ hC=>cd hC) (h:=c7 0 6 (eH.b 0) (D:=fun _ hC=>cd hC) (h:=dj 0 5 (D:=aA (c:=nT Oj _ Ch Jq zn) (k:=?_))))
 rintro _ Ix ⟨rfl,u16⟩
 have ji:=eH.call u16
 refine ⟨⟨(ji.b 0),trivial⟩,?_⟩
 refine dj 0 7 (D:=aA (c:=nT nG _ gQ rf Ix) (k:=?_))
 rintro _ Q9 ⟨rfl,Iz⟩
 have oI:=ji.call Iz
 refine ⟨trivial,?_⟩
 refine aC 4 (fun lA=>?_) fun lA=>?_
 refine ab 2 (h:=cu (us:=[aj Bs.zero.w0,aj Bs.zero.w1,aj Bs.zero.w2,aj Bs.zero.w3,ai 0,.bool false,.bool false]) (k:=aY 0 (h:=bL oI 2 (k:=fun Oo nF=>pO 3 (h1:=cS (nF.b 2)) (h:=?_)))))
 have e2:=sh D1 ⟨by omega,by omega,by omega,by omega⟩ Fv
 first|rw [if_pos (by simpa using JX),if_pos oz] at e2|rw [if_neg (by simpa using JX)] at e2
 exact ⟨Bs.zero,0,false,false,rfl,nF.af,(uO hI oz oz e2)⟩
 have e2:=sh D1 ⟨by omega,by omega,by omega,by omega⟩ Fv
 rw [if_pos (by simpa using JX),if_neg oz] at e2
 refine fI 2 oI (h:=fun Om nE=>c7 0 0 (nE.b 0) (D:=fun _ hC=>cd hC) (h:=c7 0 2 (nE.b 3) (D:=fun _ hC=>cd hC) (h:=c7 1 6 (nE.b 3) (D:=fun _ hC=>aM hC) (h:=dj 0 1 (D:=aA (c:=nT nG _ gQ rf Om) (k:=?_))))))
 rintro _ Ol ⟨rfl,Wc⟩
 have pM:=nE.call Wc
 refine ⟨⟨(pM.b 3),trivial,(pM.b 3),trivial⟩,?_⟩
 refine dj 0 3 (D:=aA (c:=nT Oj _ Ch Jq Ol) (k:=?_))
 rintro _ Q8 ⟨rfl,Wb⟩
 have pL:=pM.call Wb
 refine ⟨⟨(pL.b 3),trivial,trivial⟩,?_⟩
 refine dj 0 4 (D:=aA (c:=gD _ ((iD nG rf).toNat) _ ((iD Oj Jq).toNat) Q8 oz oz oz oz) (k:=?_))
 rintro _ V9 ⟨rfl,u21⟩
 have rW:=pL.call u21
 refine ⟨⟨(rW.b 3),trivial,trivial⟩,?_⟩
 refine gk 0 7 (D:=fun _=>cu) (h:=dj 0 8 (D:=bL rW 0 (k:=fun Sn tS=>?_)))
 refine ⟨trivial,?_⟩
 exact cA 1 (h:=by exact ⟨(bG ((iD nG rf).toNat) ((iD Oj Jq).toNat)),zP,true,false,rfl,(tS.pm [0,1,2] rfl rfl),(by first|exact e2|exact kg D1 oz),oz⟩)
 exact cA 1 (h:=by exact ⟨nG,eB,gQ,rf,rfl,dw,(by first|exact e2|exact kg D1 oz),oz⟩)
 exact cv 8 [72,9,8,7,6,4,0] (h:=cA 2 (h:=by exact ⟨nG,eB,gQ,rf,rfl,dw,(by first|exact e2|exact kg D1 oz),oz⟩))
 exact cv 14 [72,9,8,7,6,4,0] (h:=cA 2 (h:=by exact ⟨nG,eB,gQ,rf,rfl,dw,(by first|exact e2|exact kg D1 oz),oz⟩))
 exact cv 21 [72,9,8,7,6,4,0] (h:=cA 2 (h:=by exact ⟨nG,eB,gQ,rf,rfl,dw,(by first|exact e2|exact kg D1 oz),oz⟩))
 rintro Γ4 Sm ⟨x2,Ow,ok2,Kz,rfl,pK,XG,hn2⟩
 have hpr:=su oz XG
 refine ab 2 (h:=cd (pK.b 1) (k:=ab 1 (h:=cd (pK.b 0) (k:=ab 0 (h:=aA (c:=I3 r x2 Sm) (k:=?_))))))
 rintro _ ZU ⟨rfl,Wa⟩
 have mf:=pK.call Wa
 exact aY 0 (h:=bL mf 1 (k:=fun w30 rV=>ab 4 (h:=aM (rV.b 0) (k:=cm 3 (h:=by exact ⟨Ow,(qV r x2),rfl,(rV.pm [1,2] rfl rfl),oz,(by intro q h;exact hI q (.step oz oz XG h)),rfl⟩)))))
 exact ab 4 (h:=cu (us:=[aj Bs.zero.w0,aj Bs.zero.w1,aj Bs.zero.w2,aj Bs.zero.w3,ai 0,.bool false,.bool false]) (k:=aY 0 (h:=bL H6 1 (k:=fun w31 pY=>pO 3 (h1:=cS (pY.b 1)) (h:=⟨Bs.zero,0,false,false,rfl,pY.af,(N4 hI oz)⟩)))))
theorem GO (p:ByteArray) (aI:Int) (a:Nat) (w:World) (uj:aI=((a:Nat):Int)) (hp:p.size≤200) (ha:a≤p.size):
 Calls Tryz.prog 133 #[.string p,ai aI] w (aX fun v w'=>v= .tuple #[ai (jr p a),b7 (a+kD p a)]∧ax w [] w' []):=by
 subst uj
 refine cH Tryz.func133 (h:=fun H0=>dA 19 [7,6,5,4,0,1] (fun B R L m e v=>∃k:Nat,∃nI,e=(7,ai nI)::(6,b7 (a+k))::B∧av w L v (R)∧(k≤kD p a)∧(nI=(dH p a k:Nat))∧m=3-k) (i:=⟨0,0,rfl,H0,(by exact Nat.zero_le _),rfl,rfl⟩) (h:=?_))
 rintro m1 Γ1 w1 ⟨k,nI,rfl,H1,hk,hn,rfl⟩
 have hvs:=iz hk
 have Hz:=cn p (a+k)
 refine o9 1 [7,6,5,4,0,1] 0 H1 (fun B R L e v=>∃q:Bool,e=(30,.bool q)::B∧av w L v (R)∧(q=(decide (k<3)&&uK p (a+k)))) ?_ ?_
 refine b9 6 13 (fun adI=>?_) fun adI=>?_
 refine ab 2 (h:=aV (k:=b9 3 19 (fun YC=>?_) fun YC=>?_))
 refine ab 2 (h:=iV (a+k) (k:=b9 3 25 (fun T6=>?_) fun T6=>?_))
 exact ab 2 (h:=iV (a+k) (k:=cA 3 (h:=by exact ⟨decide (((bn p (a+k):Nat):Int)≤(57:Int)),rfl,H1,(by unfold uK;rw [Bool.eq_iff_iff];simp only [Bool.and_eq_true,decide_eq_true_eq,Bool.false_eq_true,false_iff,true_iff];omega)⟩)))
 exact cA 6 (h:=by exact ⟨false,rfl,H1,(by unfold uK;rw [Bool.eq_iff_iff];simp only [Bool.and_eq_true,decide_eq_true_eq,Bool.false_eq_true,false_iff,true_iff];omega)⟩)
 exact cA 12 (h:=by exact ⟨false,rfl,H1,(by unfold uK;rw [Bool.eq_iff_iff];simp only [Bool.and_eq_true,decide_eq_true_eq,Bool.false_eq_true,false_iff,true_iff];omega)⟩)
 exact cA 18 (h:=by exact ⟨false,rfl,H1,(by unfold uK;rw [Bool.eq_iff_iff];simp only [Bool.and_eq_true,decide_eq_true_eq,Bool.false_eq_true,false_iff,true_iff];omega)⟩)
 rintro Γ2 w2 ⟨q,rfl,H2,hq⟩
 refine dv 0 (fun N1=>?_) fun N1=>?_
 have hgo:=RA hk hq N1
 have hdg:=Nh (c:=bn p (a+k)) oz
 refine ab 6 (h:=Ha (k:=ab 2 (h:=iV (a+k) (k:=ab 0 (h:=aA (c:=nX (bn p (a+k)) w2 (cn _ _)) (k:=?_))))))
 rintro _ w3 ⟨rfl,u1⟩
 have H3:=H2.call u1
 exact ab 0 (h:=aV (k:=ab 5 (h:=aV (k:=cm 3 (h:=by exact ⟨k+1,(nI*10)+(dJ (bn p (a+k))),rfl,H3,(by exact hgo.1),(by rw [hn];simp only [dH];omega),rfl⟩)))))
 refine o9 3 [7,6,5,4] 0 H2 (fun B R L e v=>∃q2:Bool,e=(64,.bool q2)::B∧av w L v (R)∧(k=kD p a)∧(q2= !b8 p a)) ?_ ?_
 have uh:=My hk hq N1
 have HA:=cn p a
 have h0d:0<k→a<p.size:=fun h9=>by have h8:=uJ (sD (p:=p) (a:=a) (k:=0) oz);omega
 refine b9 5 43 (fun sO=>?_) fun sO=>?_
 exact cA 22 (h:=by exact ⟨true,rfl,H2,(by exact uh),(by rw [lN,←uh];rw [Bool.eq_iff_iff];simp only [Bool.not_eq_true',decide_eq_true_eq,decide_eq_false_iff_not,Bool.false_eq_true,false_iff,true_iff];omega)⟩)
 refine ab 2 (h:=aV (k:=b9 3 49 (fun YA=>?_) fun YA=>?_))
 exact cA 16 (h:=by exact ⟨true,rfl,H2,(by exact uh),(by rw [lN,←uh];rw [Bool.eq_iff_iff];simp only [Bool.not_eq_true',decide_eq_true_eq,decide_eq_false_iff_not,Bool.false_eq_true,false_iff,true_iff];omega)⟩)
 refine b9 4 53 (fun T4=>?_) fun T4=>?_
 exact cA 12 (h:=by exact ⟨true,rfl,H2,(by exact uh),(by rw [lN,←uh];rw [Bool.eq_iff_iff];simp only [Bool.not_eq_true',decide_eq_true_eq,decide_eq_false_iff_not,Bool.false_eq_true,false_iff,true_iff];omega)⟩)
 refine ab 2 (h:=aV (k:=b9 2 58 (fun Qh=>?_) fun Qh=>?_))
 exact ab 2 (h:=iV a (k:=cA 4 (h:=by exact ⟨decide (((bn p a:Nat):Int)=(48:Int)),rfl,H2,(by exact uh),(by rw [lN,←uh];rw [Bool.eq_iff_iff];simp only [Bool.not_eq_true',decide_eq_true_eq,decide_eq_false_iff_not,Bool.false_eq_true,false_iff,true_iff];omega)⟩)))
 exact cA 7 (h:=by exact ⟨false,rfl,H2,(by exact uh),(by rw [lN,←uh];rw [Bool.eq_iff_iff];simp only [Bool.not_eq_true',decide_eq_true_eq,decide_eq_false_iff_not,Bool.false_eq_true,false_iff,true_iff];omega)⟩)
 rintro Γ3 w4 ⟨q2,rfl,H4,uh,Am⟩
 refine dv 0 (fun wV=>?_) fun wV=>?_
 refine gh 8 (h:=?_)
 have e9:jr p a= -1:=by unfold jr;rw [if_neg (by rw [Am] at wV;simpa using wV)]
 exact ⟨(by rw [e9,←uh];try rfl),H4.af⟩
 refine gh 11 (h:=?_)
 have e9:jr p a=(dH p a k:Nat):=by unfold jr;rw [if_pos (by rw [Am] at wV;simpa using wV),←uh]
 exact ⟨(by rw [hn,e9,←uh];try rfl),H4.af⟩
theorem SJ (p:ByteArray) (aI:Int) (a:Nat) (w:World) (uj:aI=((a:Nat):Int)) (hp:p.size≤200) (ha:a<p.size):
 Calls Tryz.prog 91 #[.string p,ai aI] w (aX fun v w'=>∃lo hi nx,v= .tuple #[ai lo,ai hi,ai nx]∧ax w [] w' []∧(Is (gE p a) (decide (nx≠0)) (A2 lo hi nx))):=by
 subst uj
 refine cH Tryz.func91 (h:=fun H0=>ab 11 (h:=aV (k:=ab 0 (h:=aA (c:=GO _ _ (a+1) w oz oz oz) (k:=?_)))))
 rintro _ w1 ⟨rfl,u1⟩
 have H1:=H0.call u1
 have hv1:=Ct p (a+1)
 have OC:=CI (p:=p) (a:=a+1) oz
 have acM:=yN p (a+1)
 refine b9 13 20 (fun adE=>?_) fun adE=>?_
 exact mA 16 (h:=⟨0,0,0,rfl,H1.af,(Is.zero (vn (by first|exact .inl (G8 oz)|exact .inr oz)))⟩)
 refine aC 7 (fun US=>?_) fun US=>?_
 exact mA 8 (h:=⟨0,0,0,rfl,H1.af,(Is.zero (vn (by first|exact .inl (G8 oz)|exact .inr oz)))⟩)
 obtain ⟨Oz,hy2⟩:=od (p:=p) (a:=a+1) oz
 refine ab 7 (h:=iV ((a+1)+kD p (a+1)) (k:=aC 3 (fun xR=>?_) fun xR=>?_))
 exact ab 5 (h:=aV (k:=mA 6 (h:=⟨jr p (a+1),jr p (a+1),(((a+1)+kD p (a+1):Nat):Int)+1,rfl,H1.af,(zI (nV Oz oz oz ⟨fun _=>by omega,fun _=>rfl⟩ hy2 hy2 rfl))⟩)))
 refine ab 7 (h:=iV ((a+1)+kD p (a+1)) (k:=b9 2 38 (fun adC=>?_) fun adC=>?_))
 exact cv 8 [44,8,7,6,5,4,0] (h:=mA 9 (h:=⟨0,0,0,rfl,H1.af,(Is.zero (by first|exact (nV (ok:=false) Oz oz oz ⟨fun h9=>(by cases h9),fun h9=>oz⟩ rfl rfl rfl).f (by decide)|exact (nU (ok:=false) Oz oz oz oz ⟨fun h9=>(by cases h9),fun h9=>oz⟩ rfl rfl rfl).f (by decide)))⟩))
 refine ab 1 (h:=aV (k:=cv 6 [44,8,7,6,5,4,0] (h:=aC 0 (fun UR=>?_) fun UR=>?_)))
 exact mA 8 (h:=⟨0,0,0,rfl,H1.af,(Is.zero (by first|exact (nV (ok:=false) Oz oz oz ⟨fun h9=>(by cases h9),fun h9=>oz⟩ rfl rfl rfl).f (by decide)|exact (nU (ok:=false) Oz oz oz oz ⟨fun h9=>(by cases h9),fun h9=>oz⟩ rfl rfl rfl).f (by decide)))⟩)
 refine ab 7 (h:=aV (k:=ab 0 (h:=iV (((a+1)+kD p (a+1))+1) (k:=aC 3 (fun aeu=>?_) fun aeu=>?_))))
 exact ab 4 (h:=aV (k:=mA 6 (h:=⟨jr p (a+1),-1,(((a+1)+kD p (a+1):Nat):Int)+2,rfl,H1.af,(zI (nU Oz oz oz oz ⟨fun _=>by omega,fun _=>rfl⟩ hy2 rfl oz))⟩)))
 refine ab 6 (h:=aV (k:=ab 0 (h:=aA (c:=GO _ _ (((a+1)+kD p (a+1))+1) w1 oz oz oz) (k:=?_))))
 rintro _ w2 ⟨rfl,u2⟩
 have H2:=H1.call u2
 have hv2:=Ct p (a+1+kD p (a+1)+1)
 have tD:=CI (p:=p) (a:=a+1+kD p (a+1)+1) oz
 refine b9 14 63 (fun adz=>?_) fun adz=>?_
 exact cv 13 [74,10,9,7,6,5,4] (h:=mA 9 (h:=⟨0,0,0,rfl,H2.af,(Is.zero (by first|exact vo oz (zT oz) oz|(obtain ⟨RC,Te⟩:=od (p:=p) (a:=a+1+kD p (a+1)+1) oz;exact (nn (ok:=false) Oz oz oz oz RC oz ⟨fun h9=>(by cases h9),fun h9=>oz⟩ rfl rfl rfl).f dk)))⟩))
 refine b9 6 69 (fun Yw=>?_) fun Yw=>?_
 exact cv 7 [74,10,9,7,6,5,4] (h:=mA 9 (h:=⟨0,0,0,rfl,H2.af,(Is.zero (by first|exact vo oz (zT oz) oz|(obtain ⟨RC,Te⟩:=od (p:=p) (a:=a+1+kD p (a+1)+1) oz;exact (nn (ok:=false) Oz oz oz oz RC oz ⟨fun h9=>(by cases h9),fun h9=>oz⟩ rfl rfl rfl).f dk)))⟩))
 refine ab 2 (h:=iV ((((a+1)+kD p (a+1))+1)+kD p (((a+1)+kD p (a+1))+1)) (k:=cv 4 [74,10,9,7,6,5,4] (h:=aC 0 (fun aes=>?_) fun aes=>?_)))
 exact mA 8 (h:=⟨0,0,0,rfl,H2.af,(Is.zero (by first|exact vo oz (zT oz) oz|(obtain ⟨RC,Te⟩:=od (p:=p) (a:=a+1+kD p (a+1)+1) oz;exact (nn (ok:=false) Oz oz oz oz RC oz ⟨fun h9=>(by cases h9),fun h9=>oz⟩ rfl rfl rfl).f dk)))⟩)
 refine ab 7 (h:=aV (k:=mA 6 (h:=?_)))
 obtain ⟨RC,Te⟩:=od (p:=p) (a:=a+1+kD p (a+1)+1) oz
 exact ⟨jr p (a+1),jr p (((a+1)+kD p (a+1))+1),(((((a+1)+kD p (a+1))+1)+kD p (((a+1)+kD p (a+1))+1):Nat):Int)+1,rfl,H2.af,(zI (nn Oz oz oz oz RC oz ⟨fun _=>by omega,fun _=>rfl⟩ hy2 Te oz))⟩
theorem SG (p:ByteArray) (aI:Int) (a:Nat) (w:World) (uj:aI=((a:Nat):Int)) (hp:p.size≤200) (ha:a<p.size):
 Calls Tryz.prog 76 #[.string p,ai aI] w (aX fun v w'=>∃t:Tk,∃nx,v= .tuple #[.agg #[ai t.kind,ai t.pos,aj t.set.w0,aj t.set.w1,aj t.set.w2,aj t.set.w3,ai t.lo,ai t.hi],ai nx]∧ax w [] w' []∧(lD p a t nx)):=by
 subst uj
 have h5:(⟨#[124,40,41,94,36]⟩:ByteArray).size=5:=rfl
 refine cH Tryz.func76 (h:=fun H0=>ab 2 (h:=dB H0 (k:=fun w1 H1=>ab 10 (h:=dL (aw .i64) [2,3,4,6,7] H1 (k:=fun w2 H2=>dA 10 [8,7,6,5,4,0,1] (fun B R L m e v=>∃k,e=(8,b7 k)::B∧av w L v (R)∧(k≤5)∧(∀j,j<k→bn ⟨#[124,40,41,94,36]⟩ j≠bn p a)∧m=5-k) (i:=⟨0,rfl,H2,om,(by intro j hj;omega),rfl⟩) (h:=?_))))))
 rintro m1 Γ1 w3 ⟨k,rfl,H3,hk,hn,rfl⟩
 refine aC 9 (fun NX=>?_) fun NX=>?_
 refine fI 5 H3 (h:=fun w4 H4=>gk 2 2 (D:=fun _=>iV k) (h:=gk 2 5 (D:=fun _=>iV a) (h:=aC 3 (fun aeq=>?_) fun aeq=>?_)))
 exact ab 4 (h:=cg k (H4.rt 1) (hj:=Gx) (k:=ab 0 (h:=cI (H4.rt 1) (hj:=Gx) (k:=ab 1 (h:=cu (us:=[ai ([2,3,4,6,7].getD k 0),b7 a,aj Bs.zero.w0,aj Bs.zero.w1,aj Bs.zero.w2,aj Bs.zero.w3,ai 0,ai 0]) (k:=ab 1 (h:=aV (k:=aY 0 (h:=bL H4 0 (k:=fun w5 H5=>gG 4 (h1:=cS (H5.b 0)) (h2:=dc) (h:=⟨(⟨[2,3,4,6,7].getD k 0,((a:Nat):Int),Bs.zero,0,0⟩:Tk),((a:Nat):Int)+1,rfl,H5.af,(Lk oz ha oz rfl)⟩)))))))))))
 exact ab 5 (h:=aV (k:=cm 2 (h:=by exact ⟨k+1,rfl,H4,om,(by intro j hj;exact (Nat.lt_or_ge j k).elim (hn j) (fun h9=>by (obtain rfl:j=k:=by omega);omega)),rfl⟩)))
 refine o9 2 [5,4,0,1] 0 H3 (fun B R L e v=>∃g9:Nat,e=(9,.pointer (some ⟨g9,0,none⟩))::B∧av w L v ([aQ g9 #[aj (bG (bn p a) (bn p a)).w0,aj (bG (bn p a) (bn p a)).w1,aj (bG (bn p a) (bn p a)).w2,aj (bG (bn p a) (bn p a)).w3,ai (((a:Nat):Int)+1),.bool true,.bool false] 168]::R)∧(bn p a≠124∧bn p a≠40∧bn p a≠41∧bn p a≠94∧bn p a≠36)) ?_ ?_
 have HA:=cn p a
 have Th:=Ll (fun j hj=>hn j oz)
 refine fI 0 H3 (h:=fun w6 H6=>gk 2 2 (D:=fun _=>iV a) (h:=gk 0 3 (D:=fun _=>jd (h:=(by first|omega|exact jP (cn _ _)))) (h:=gk 2 6 (D:=fun _=>iV a) (h:=gk 0 7 (D:=fun _=>jd (h:=(by first|omega|exact jP (cn _ _)))) (h:=gk 1 10 (D:=fun _=>aV (h1:=(by first|omega|exact jP (cn _ _))) (h2:=(by first|omega|exact jP (cn _ _)))) (h:=aaS 0 [8,12] (U5 ?_ ?_)))))))
 refine V6 (D:=aA (c:=gD _ (bn p a) _ (bn p a) w6 oz oz oz oz) (k:=?_))
 rintro _ w7 ⟨rfl,u4⟩
 have H7:=H6.call u4
 refine ⟨⟨trivial,trivial,trivial⟩,?_⟩
 refine gk 0 11 (D:=fun _=>cu) (h:=dj 0 12 (D:=dB H7 (k:=fun w8 H8=>?_)))
 refine ⟨⟨trivial,trivial,trivial,trivial⟩,?_⟩
 refine dj 0 13 (D:=bL H8 2 (k:=fun w9 H9=>?_))
 refine ⟨trivial,?_⟩
 exact cA 1 (h:=by exact ⟨w7.heap.size,rfl,(H9.pm [2,0,1] rfl rfl),(by exact Th)⟩)
 refine V6 (D:=dB H6 (k:=fun iy bW=>?_))
 refine ⟨⟨trivial,trivial,trivial,trivial,trivial,trivial,trivial,trivial,trivial,trivial,trivial⟩,?_⟩
 refine dj 0 8 (D:=aA (c:=gD _ (bn p a) _ (bn p a) iy oz oz oz oz) (k:=?_))
 rintro _ gS ⟨rfl,u8⟩
 have bP:=bW.call u8
 refine ⟨⟨trivial,trivial,trivial⟩,?_⟩
 refine gk 0 11 (D:=fun _=>cu) (h:=dj 0 13 (D:=bL bP 2 (k:=fun jz ck=>?_)))
 refine ⟨trivial,?_⟩
 exact cA 1 (h:=by exact ⟨w6.heap.size,rfl,(ck.pm [2,0,1] rfl rfl),(by exact Th)⟩)
 rintro Γ2 kK ⟨g9,rfl,cU,Th⟩
 refine ab 5 (h:=iV a (k:=aC 9 (fun UO=>?_) fun UO=>?_))
 exact ab 3 (h:=cu (us:=[ai 5,b7 a,aj Bs.zero.w0,aj Bs.zero.w1,aj Bs.zero.w2,aj Bs.zero.w3,ai 0,ai (-1)]) (k:=ab 1 (h:=aV (k:=aY 0 (h:=bL cU 1 (k:=fun nH cN=>gG 4 (h1:=cS (cN.b 1)) (h2:=dc) (h:=⟨(⟨5,((a:Nat):Int),Bs.zero,0,-1⟩:Tk),((a:Nat):Int)+1,rfl,cN.af,(fB.pos ha (dh oz (by unfold iB;(repeat (first|rw [if_pos oz]|rw [if_neg oz]));exact ⟨rfl,rfl,rfl⟩)))⟩)))))))
 refine aC 6 (fun aen=>?_) fun aen=>?_
 exact ab 3 (h:=cu (us:=[ai 5,b7 a,aj Bs.zero.w0,aj Bs.zero.w1,aj Bs.zero.w2,aj Bs.zero.w3,ai 1,ai (-1)]) (k:=ab 1 (h:=aV (k:=aY 0 (h:=bL cU 1 (k:=fun tU dt=>gG 4 (h1:=cS (dt.b 1)) (h2:=dc) (h:=⟨(⟨5,((a:Nat):Int),Bs.zero,1,-1⟩:Tk),((a:Nat):Int)+1,rfl,dt.af,(fB.pos ha (dh oz (by unfold iB;(repeat (first|rw [if_pos oz]|rw [if_neg oz]));exact ⟨rfl,rfl,rfl⟩)))⟩)))))))
 refine aC 6 (fun aem=>?_) fun aem=>?_
 exact ab 3 (h:=cu (us:=[ai 5,b7 a,aj Bs.zero.w0,aj Bs.zero.w1,aj Bs.zero.w2,aj Bs.zero.w3,ai 0,ai 1]) (k:=ab 1 (h:=aV (k:=aY 0 (h:=bL cU 1 (k:=fun ur dw=>gG 4 (h1:=cS (dw.b 1)) (h2:=dc) (h:=⟨(⟨5,((a:Nat):Int),Bs.zero,0,1⟩:Tk),((a:Nat):Int)+1,rfl,dw.af,(fB.pos ha (dh oz (by unfold iB;(repeat (first|rw [if_pos oz]|rw [if_neg oz]));exact ⟨rfl,rfl,rfl⟩)))⟩)))))))
 refine aC 6 (fun UN=>?_) fun UN=>?_
 refine ab 4 (h:=aA (c:=SJ _ _ a kK oz oz oz) (k:=?_))
 rintro _ xq ⟨Px,PW,eB,rfl,zu,Tj⟩
 have fH:=cU.call zu
 exact ab 14 (h:=cu (us:=[ai 5,b7 a,aj Bs.zero.w0,aj Bs.zero.w1,aj Bs.zero.w2,aj Bs.zero.w3,ai Px,ai PW]) (k:=aY 1 (h:=bL fH 1 (k:=fun zn il=>cv 3 [5,4] (h:=gG 1 (h1:=cS (il.b 1)) (h2:=dc) (h:=⟨(⟨5,((a:Nat):Int),Bs.zero,Px,PW⟩:Tk),eB,rfl,il.af,(by unfold lD;exact GB oz Tj rfl)⟩))))))
 refine aC 6 (fun wS=>?_) fun wS=>?_
 refine ab 3 (h:=aA (c:=LD _ _ a kK oz oz oz) (k:=?_))
 rintro _ zm ⟨nG,zP,gQ,rf,rfl,ON,CX⟩
 have jh:=cU.call ON
 refine aY 0 (h:=bL jh 0 (k:=fun Ix eH=>ab 7 (h:=aM (eH.b 0) (k:=dv 3 (fun oB=>?_) fun oB=>?_))))
 exact ab 2 (h:=cu (us:=[ai 0,ai 0,aj Bs.zero.w0,aj Bs.zero.w1,aj Bs.zero.w2,aj Bs.zero.w3,ai 0,ai 0]) (k:=aY 0 (h:=bL eH 1 (k:=fun Q9 lf=>gG 4 (h1:=cS (lf.b 1)) (h2:=dc) (h:=⟨(⟨0,0,Bs.zero,0,0⟩:Tk),0,rfl,lf.af,(by first|exact fB.zero (mu oz ((show gQ=false by simpa using oB)▸CX) rfl)|exact fB.zero (mi oz ((show Ch=false by simpa using oB)▸nA) rfl))⟩)))))
 refine fI 3 eH (h:=fun Oo ji=>c7 2 2 (ji.b 0) (D:=fun _ hC=>cd hC) (h:=gk 0 3 (D:=fun _=>cu) (h:=c7 1 5 (ji.b 0) (D:=fun _ hC=>aM hC) (h:=dj 0 6 (D:=bL ji 1 (k:=fun Om oI=>?_))))))
 refine ⟨⟨(oI.b 0),trivial,trivial⟩,?_⟩
 exact gG 4 (h1:=cS (oI.b 1)) (h2:=dc) (h:=⟨(⟨1,((a:Nat):Int),nG,0,0⟩:Tk),zP,rfl,oI.af,(by first|exact lD.of ha (mu oz CX rfl) (by simpa using oB)|exact lD.of ha (mi oz nA rfl) (by simpa using oB)|exact qS ha oz rfl|exact oS ha Th oz oz oz oz oz oz oz rfl)⟩)
 refine aC 6 (fun NW=>?_) fun NW=>?_
 refine ab 3 (h:=aA (c:=GV _ _ a kK oz oz oz) (k:=?_))
 rintro _ Ol ⟨Oj,SU,Ch,Jq,rfl,Wc,nA,XL,ry⟩
 have nF:=cU.call Wc
 refine aY 0 (h:=bL nF 0 (k:=fun Q8 nE=>ab 7 (h:=aM (nE.b 0) (k:=dv 3 (fun oB=>?_) fun oB=>?_))))
 exact ab 2 (h:=cu (us:=[ai 0,ai 0,aj Bs.zero.w0,aj Bs.zero.w1,aj Bs.zero.w2,aj Bs.zero.w3,ai 0,ai 0]) (k:=aY 0 (h:=bL nE 1 (k:=fun V9 pM=>gG 4 (h1:=cS (pM.b 1)) (h2:=dc) (h:=⟨(⟨0,0,Bs.zero,0,0⟩:Tk),0,rfl,pM.af,(by first|exact fB.zero (mu oz ((show gQ=false by simpa using oB)▸CX) rfl)|exact fB.zero (mi oz ((show Ch=false by simpa using oB)▸nA) rfl))⟩)))))
 refine fI 3 nE (h:=fun Sn pL=>c7 2 2 (pL.b 0) (D:=fun _ hC=>cd hC) (h:=gk 0 3 (D:=fun _=>cu) (h:=c7 1 5 (pL.b 0) (D:=fun _ hC=>aM hC) (h:=dj 0 6 (D:=bL pL 1 (k:=fun Sm rW=>?_))))))
 refine ⟨⟨(rW.b 0),trivial,trivial⟩,?_⟩
 exact cv 3 [5,4] (h:=gG 1 (h1:=cS (rW.b 1)) (h2:=dc) (h:=⟨(⟨1,((a:Nat):Int),Oj,0,0⟩:Tk),SU,rfl,rW.af,(by first|exact lD.of ha (mu oz CX rfl) (by simpa using oB)|exact lD.of ha (mi oz nA rfl) (by simpa using oB)|exact qS ha oz rfl|exact oS ha Th oz oz oz oz oz oz oz rfl)⟩))
 refine aC 6 (fun wR=>?_) fun wR=>?_
 refine ab 1 (h:=aA (c:=gD _ 10 _ 10 kK oz oz oz oz) (k:=?_))
 rintro _ ZU ⟨rfl,Wa⟩
 have tS:=cU.call Wa
 refine ab 0 (h:=aA (c:=BP (bG 10 10) ZU) (k:=?_))
 rintro _ w30 ⟨rfl,u24⟩
 have pK:=tS.call u24
 refine aY 1 (h:=bL pK 0 (k:=fun w31 mf=>ab 7 (h:=aM (mf.b 0) (k:=fI 7 mf (h:=fun w32 rV=>c7 2 2 (rV.b 0) (D:=fun _ hC=>cd hC) (h:=gk 0 3 (D:=fun _=>cu) (h:=c7 1 5 (rV.b 0) (D:=fun _ hC=>aM hC) (h:=dj 0 6 (D:=bL rV 1 (k:=fun w33 pY=>?_))))))))))
 refine ⟨⟨(pY.b 0),trivial,trivial⟩,?_⟩
 exact cv 3 [5,4] (h:=gG 1 (h1:=cS (pY.b 1)) (h2:=dc) (h:=⟨(⟨1,((a:Nat):Int),fF (bG 10 10),0,0⟩:Tk),((a:Nat):Int)+1,rfl,pY.af,(by first|exact lD.of ha (mu oz CX rfl) (by simpa using oB)|exact lD.of ha (mi oz nA rfl) (by simpa using oB)|exact qS ha oz rfl|exact oS ha Th oz oz oz oz oz oz oz rfl)⟩))
 refine ab 7 (h:=aM (cU.b 0) (k:=fI 7 cU (h:=fun w34 xV=>c7 2 2 (xV.b 0) (D:=fun _ hC=>cd hC) (h:=gk 0 3 (D:=fun _=>cu) (h:=c7 1 5 (xV.b 0) (D:=fun _ hC=>aM hC) (h:=dj 0 6 (D:=bL xV 1 (k:=fun w35 qF=>?_))))))))
 refine ⟨⟨(qF.b 0),trivial,trivial⟩,?_⟩
 exact cv 3 [5,4] (h:=gG 1 (h1:=cS (qF.b 1)) (h2:=dc) (h:=⟨(⟨1,((a:Nat):Int),bG (bn p a) (bn p a),0,0⟩:Tk),((a:Nat):Int)+1,rfl,qF.af,(by first|exact lD.of ha (mu oz CX rfl) (by simpa using oB)|exact lD.of ha (mi oz nA rfl) (by simpa using oB)|exact qS ha oz rfl|exact oS ha Th oz oz oz oz oz oz oz rfl)⟩))
theorem O5 (p:ByteArray) (w:World):
 Calls Tryz.prog 49 #[.string p] w (aX fun v w'=>∃a2 c2,∃o:List Tk,∃at_ er,v= .tuple #[aH a2 o c2,ai at_,ai er]∧ax w [] w' [cE dC 131 a2 o c2]∧(eu p ⟨o,at_,er⟩)∧(o.length≤200)):=by
 refine cH Tryz.func49 (h:=fun H0=>aC 15 (fun NV=>?_) fun NV=>?_)
 exact mA 8 (h:=⟨none,0,[],0,4,rfl,eC H0,(yb oz),(Nat.zero_le _)⟩)
 have H1:=H0.nr dC 131
 refine dA 14 [6,5,4,3,2,0] (fun B R L m e v=>∃aI,∃o:List Tk,∃oa oc,e=(6,ai aI)::(5,aH oa o oc)::B∧av w L v ([cE dC 131 oa o oc]::R)∧(0≤aI∧aI≤p.size)∧(∀r,iP p (Int.toNat aI) o r→iP p 0 [] r)∧(o.length≤Int.toNat aI)∧m=p.size-Int.toNat aI) (i:=⟨0,([]:List Tk),none,0,rfl,H1,oz,(by exact fun r h=>h),(by simp),rfl⟩) (h:=?_)
 rintro m1 Γ1 w1 ⟨aI,o,oa,oc,rfl,H2,hi0,hI,Fx,rfl⟩
 refine aC 9 (fun aeg=>?_) fun aeg=>?_
 refine ab 7 (h:=aA (c:=SG _ _ aI.toNat w1 oz oz oz) (k:=?_))
 rintro _ w2 ⟨Wj,eB,rfl,u1,MG⟩
 have H3:=H2.call u1
 refine ab 3 (h:=dB H3 (k:=fun w3 H4=>aY 0 (h:=bL H4 1 (k:=fun w4 H5=>aC 10 (fun aef=>?_) fun aef=>?_))))
 exact mA 9 (h:=⟨none,0,[],aI,3,rfl,eC H5,(IZ oz oz oz hI MG oz),(Nat.zero_le _)⟩)
 have iu:=Ev oz oz hI MG oz
 refine ab 5 (h:=cd (H5.b 1) (k:=ab 0 (h:=dL dC ([Wj]:List Tk) H5 (k:=fun w5 H6=>ab 0 (h:=kJ H6 0 (H6.rt 2) (k:=fun a1 c1 w6 Vi=>?_))))))
 have H7:=(Vi.drop 2).no
 exact cm 8 (h:=by exact ⟨eB,o++([Wj]:List Tk),a1,c1,rfl,(H7.pm [0] rfl rfl),oz,(by exact iu.1),im,rfl⟩)
 exact mA 11 (h:=⟨oa,oc,o,0,0,rfl,H2.kM 0,(yd oz oz hI),oz⟩)
theorem LJ (la:aP) (l:List Tk) (lc:Nat) (end_:Int) (w:World) (rl:bz dC w (.slice la l.length lc) l) (hl:l.length≤1000):
   Calls Tryz.prog 54 #[.slice la l.length lc,.int .i64 end_] w (aX fun v w'=>∃a2:aP,∃c2:Nat,∃o:List Nd,∃at_:Int,∃er:Int,v= .tuple #[.slice a2 o.length c2,.int .i64 at_,.int .i64 er]∧ax w [] w' [ag aJ (.slice a2 o.length c2) 89 o]∧(DT l end_ o at_ er)):=by
  refine aX.calls (Pc la l lc end_ w rl hl) ?_
  rintro v w' ⟨a2,c2,n2,o,at_,er,rfl,u,h⟩
  have hn:n2=o.length:=(cC (ax.hp u) (List.mem_singleton.2 rfl)).len
  subst hn
  exact ⟨a2,c2,o,at_,er,rfl,u,h⟩
theorem Lt (la:aP) (l:List Tk) (lc:Nat) (end_:Int) (w:World) (rl:bz dC w (.slice la l.length lc) l) (hl:l.length≤1000):
   Calls Tryz.prog 50 #[.slice la l.length lc,.int .i64 end_] w (aX fun v w'=>∃a2:aP,∃c2:Nat,∃o:List Nd,∃at_:Int,∃er:Int,v= .tuple #[.slice a2 o.length c2,.int .i64 at_,.int .i64 er]∧ax w [] w' [ag aJ (.slice a2 o.length c2) 89 o]∧(DT l end_ o at_ er)):=by
  refine aX.calls (O7 la l lc end_ w rl hl) ?_
  rintro v w' ⟨a2,c2,n2,o,at_,er,rfl,u,h⟩
  have hn:n2=o.length:=(cC (ax.hp u) (List.mem_singleton.2 rfl)).len
  subst hn
  exact ⟨a2,c2,o,at_,er,rfl,u,h⟩
theorem B8 (p:ByteArray) (w:World) (rT:cP eM w (some ⟨0,0,none⟩) qu 64) (lw:Laid w):
 Calls Tryz.prog 34 #[.string p] w (aX fun v w'=>∃a2 c2,∃o:List Nd,∃at_ er,v= .tuple #[aH a2 o c2,ai at_,ai er]∧ax w [] w' [cE aJ 89 a2 o c2]∧(l9 p o at_ er)):=by
 have jC:=rT.le
 refine cH Tryz.func34 (h:=fun H0=>ab 10 (h:=aA (c:=Eg _ w (rT.at H0) (lw.at H0)) (k:=?_)))
 rintro _ w1 ⟨bH,b6,nq,pX,pD,rfl,u1,MF,PN⟩
 have H1:=H0.ns u1
 refine aC 16 (fun xR=>?_) fun xR=>?_
 exact mA 10 (h:=⟨none,0,[],pX,pD,rfl,eC H1,⟨_,_,_,MF,.inl ⟨by omega,rfl,rfl,rfl⟩⟩⟩)
 refine ab 7 (h:=aA (c:=LJ bH nq _ _ w1 (H1.rt 0) oz) (k:=?_))
 rintro _ w2 ⟨gF,iO,Xb,DH,wA,rfl,u2,Tu⟩
 have H2:=H1.ns u2
 exact mA 9 (h:=⟨gF,iO,Xb,DH,wA,rfl,H2.kM 1,⟨_,_,_,MF,.inr ⟨by omega,Tu⟩⟩⟩)
theorem zD (p:ByteArray) (w:World):
 Calls Tryz.prog 32 #[.string p] w (aX fun v w'=>∃a2 c2,∃o:List Nd,∃at_ er,v= .tuple #[aH a2 o c2,ai at_,ai er]∧ax w [] w' [cE aJ 89 a2 o c2]∧(l9 p o at_ er)):=by
 refine cH Tryz.func32 (h:=fun H0=>ab 10 (h:=aA (c:=O5 _ w) (k:=?_)))
 rintro _ w1 ⟨bH,b6,nq,pX,pD,rfl,u1,MF,PN⟩
 have H1:=H0.ns u1
 refine aC 16 (fun Ge=>?_) fun Ge=>?_
 exact mA 10 (h:=⟨none,0,[],pX,pD,rfl,eC H1,⟨_,_,_,MF,.inl ⟨by omega,rfl,rfl,rfl⟩⟩⟩)
 refine ab 7 (h:=aA (c:=Lt bH nq _ _ w1 (H1.rt 0) oz) (k:=?_))
 rintro _ w2 ⟨gF,iO,Xb,DH,wA,rfl,u2,Tu⟩
 have H2:=H1.ns u2
 exact mA 9 (h:=⟨gF,iO,Xb,DH,wA,rfl,H2.kM 1,⟨_,_,_,MF,.inr ⟨by omega,Tu⟩⟩⟩)
end Go.Proofs.YtpbgmkhmdbchpaaGreatDoor
namespace Go.Sx
theorem Rb {p:Prop} (h:p:=by congr 1;simp only [List.length_append,List.length_singleton];omega):p:=h
theorem nP {p:Prop} (h:p:=by first|omega|(simp only [cK,List.length_append,List.length_singleton];omega)):p:=h
end Go.Sx
namespace Go.Proofs.YtpbgmkhmdbchpaaGreatDoor
open Go Go.Sx
theorem kl (g:Nat) (la:aP) (l:List Nd) (lc:Nat) (oa:aP) (o:List aR) (oc:Nat) (on:Nat) (t:aR) (w:World) (hp:Hp w [aQ g #[aH la l lc,.slice oa on oc] 189,ag br (.slice oa on oc) 193 o]) (hb:o.length≤200000):
 Calls Tryz.prog 150 #[.pointer (some ⟨g,0,none⟩),.agg #[ai t.kind,ai t.a,ai t.b,aj t.set.w0,aj t.set.w1,aj t.set.w2,aj t.set.w3]] w (aX fun v w'=>∃fO fN,∃fE:Nat,v=b7 o.length∧ax w [aQ g #[aH la l lc,.slice oa on oc] 189,ag br (.slice oa on oc) 193 o] w' [aQ g #[aH la l lc,.slice fO fE fN] 189,ag br (.slice fO fE fN) 193 (o++[t])]):=by
 obtain rfl:on=o.length:=(cC hp (List.mem_of_getElem? (i:=1) rfl)).len
 refine tW hp Tryz.func150 (h:=fun H0=>ab 2 (h:=jf H0 (k:=fun w1 H1=>fI 4 H1 (h:=fun w2 H2=>c7 4 4 (H2.b 0) (D:=fun _ hC=>aM hC) (h:=c7 0 5 (H2.b 2) (D:=fun _ hC=>cd hC) (h:=dj 0 6 (D:=dL br ([t]:List aR) H2 (k:=fun w3 H3=>?_))))))))
 refine ⟨⟨(H3.b 0),trivial,trivial,trivial,trivial,trivial⟩,?_⟩
 refine dj 0 7 (D:=kJ H3 1 (H3.rt 3) (hb:=dD) (kW:=dD) (k:=fun a1 c1 w4 Gk=>?_))
 have H4:=(Gk.drop 3).no
 refine ⟨⟨trivial,trivial⟩,?_⟩
 refine dj 2 10 (D:=jV H4 0 (k:=fun w5 H5=>?_))
 refine ⟨trivial,?_⟩
 exact ab 7 (h:=aM (H5.b 0) (k:=ab 1 (h:=kB (h1:=dD) (h2:=dD) (k:=bE 4 (h:=⟨a1,c1,(o++([t]:List aR)).length,Rb,(H5.se [0,1])⟩)))))
theorem kn (g:Nat) (la:aP) (l:List Nd) (lc:Nat) (oa:aP) (o:List aR) (oc:Nat) (on:Nat) (w:World) (hp:Hp w [aQ g #[aH la l lc,.slice oa on oc] 189,ag br (.slice oa on oc) 193 o]) (hb:o.length≤200000):
 Calls Tryz.prog 151 #[.pointer (some ⟨g,0,none⟩)] w (aX fun v w'=>∃fO fN,∃fE:Nat,v=b7 o.length∧ax w [aQ g #[aH la l lc,.slice oa on oc] 189,ag br (.slice oa on oc) 193 o] w' [aQ g #[aH la l lc,.slice fO fE fN] 189,ag br (.slice fO fE fN) 193 (o++[emp])]):=by
 obtain rfl:on=o.length:=(cC hp (List.mem_of_getElem? (i:=1) rfl)).len
 refine tW hp Tryz.func151 (h:=fun H0=>ab 8 (h:=cu (us:=[ai 2,ai 0,ai 0,aj Bs.zero.w0,aj Bs.zero.w1,aj Bs.zero.w2,aj Bs.zero.w3]) (k:=?_)))
 have H1:av _ _ _ [[_,_]]:=av.of (ax.iW H0 (l:=[0,1]) rfl rfl) rfl
 refine ab 0 (h:=aA (c:=kl _ la l lc oa o oc o.length (⟨2,0,0,Bs.zero⟩:aR) w (H1.dr 0) hb) (k:=?_))
 rintro _ w1 ⟨eV,eU,gr,rfl,u1⟩
 have H2:=H1.un 0 u1
 exact bE 4 (h:=⟨eV,eU,gr,rfl,(H2.se [0,1])⟩)
theorem jJ (g:Nat) (la:aP) (l:List Nd) (lc:Nat) (oa:aP) (o:List aR) (oc:Nat) (on:Nat) (iI:Int) (i:Nat) (vv:Int) (w:World) (hp:Hp w [aQ g #[aH la l lc,.slice oa on oc] 189,ag br (.slice oa on oc) 193 o]) (kE:iI=((i:Nat):Int)) (hi:i<o.length):
 Calls Tryz.prog 149 #[.pointer (some ⟨g,0,none⟩),ai iI,ai vv] w (aX fun v w'=>∃fO fN,∃fE:Nat,v= .tuple #[]∧ax w [aQ g #[aH la l lc,.slice oa on oc] 189,ag br (.slice oa on oc) 193 o] w' [aQ g #[aH la l lc,.slice fO fE fN] 189,ag br (.slice fO fE fN) 193 (dy o i vv)]):=by
 subst kE
 obtain rfl:on=o.length:=(cC hp (List.mem_of_getElem? (i:=1) rfl)).len
 exact tW hp Tryz.func149 (h:=fun H0=>ab 4 (h:=aM (H0.b 0) (k:=ab 2 (h:=jb i (H0.rt 1) (k:=ab 0 (h:=j4 (H0.rt 1) (k:=aY 0 (h:=SE (⟨(o.getD i ay).kind,vv,(o.getD i ay).b,(o.getD i ay).set⟩:aR) H0 1 (k:=fun w1 H1=>DY 1 (h:=⟨oa,oc,o.length,rfl,(H1.se [0,1])⟩))))))))))
theorem oY (g:Nat) (la:aP) (l:List Nd) (lc:Nat) (oa:aP) (o:List aR) (oc:Nat) (on:Nat) (t:aR) (w:World) (hp:Hp w [aQ g #[aH la l lc,.slice oa on oc] 189,ag br (.slice oa on oc) 193 o]) (hb:o.length≤100000):
 Calls Tryz.prog 148 #[.pointer (some ⟨g,0,none⟩),.agg #[ai t.kind,ai t.a,ai t.b,aj t.set.w0,aj t.set.w1,aj t.set.w2,aj t.set.w3]] w (aX fun v w'=>∃fO fN,∃fE:Nat,v= .tuple #[b7 o.length,b7 (o++[t]).length]∧ax w [aQ g #[aH la l lc,.slice oa on oc] 189,ag br (.slice oa on oc) 193 o] w' [aQ g #[aH la l lc,.slice fO fE fN] 189,ag br (.slice fO fE fN) 193 (dy ((o++[t])++[emp]) o.length (((o++[t]).length:Nat):Int))]):=by
 obtain rfl:on=o.length:=(cC hp (List.mem_of_getElem? (i:=1) rfl)).len
 refine tW hp Tryz.func148 (h:=fun H0=>ab 2 (h:=jf H0 (k:=fun w1 H1=>ab 7 (h:=cd (H1.b 2) (k:=?_)))))
 have H2:av _ _ _ [[_,_],[_]]:=av.of (ax.iW H1 (l:=[0,1,2]) rfl rfl) rfl
 refine ab 0 (h:=aA (c:=kl _ la l lc oa o oc o.length t w1 (H2.dr 0) dD) (k:=?_))
 rintro _ w2 ⟨eV,eU,gr,rfl,u2⟩
 have H3:=H2.un 0 u2
 refine ab 6 (h:=aA (c:=kn _ la l lc eV (o++[t]) eU gr w2 (H3.dr 0) dD) (k:=?_))
 rintro _ w3 ⟨qY,qX,pP,rfl,u3⟩
 have H4:=H3.un 0 u3
 refine ab 8 (h:=aA (c:=jJ _ la l lc qY ((o++[t])++[emp]) qX pP _ o.length _ w3 (H4.dr 0) oz dD) (k:=?_))
 rintro _ w4 ⟨vC,vB,vA,rfl,u4⟩
 have H5:=H4.un 0 u4
 exact gh 11 (h:=⟨vC,vB,vA,rfl,(H5.se [0,1])⟩)
theorem vG (g:Nat) (la:aP) (l:List Nd) (lc:Nat) (oa:aP) (o:List aR) (oc:Nat) (on:Nat) (iI:Int) (i:Nat) (T:Tr) (N:Nat) (w:World) (hp:Hp w [aQ g #[aH la l lc,.slice oa on oc] 189,ag br (.slice oa on oc) 193 o]) (rl:cP aJ w la l lc) (kE:iI=((i:Nat):Int)) (hT:Sub l i T) (bB:fM T) (hz:o.length+bA T≤100000) (hl:l.length≤512) (dq:eG (aH la l lc) [aQ g #[aH la l lc,.slice oa on oc] 189,ag br (.slice oa on oc) 193 o]) (hN:2*i<N+1) (Aj:∀(g:Nat) (la:aP) (l:List Nd) (lc:Nat) (oa:aP) (o:List aR) (oc:Nat) (on:Nat) (iI:Int) (i:Nat) (T:Tr) (w:World) (hp:Hp w [aQ g #[aH la l lc,.slice oa on oc] 189,ag br (.slice oa on oc) 193 o]) (rl:cP aJ w la l lc) (kE:iI=((i:Nat):Int)) (hT:Sub l i T) (bB:fM T) (hz:o.length+bA T≤100000) (hl:l.length≤512) (dq:eG (aH la l lc) [aQ g #[aH la l lc,.slice oa on oc] 189,ag br (.slice oa on oc) 193 o]) (cF:2*i<N),Calls Tryz.prog 110 #[.pointer (some ⟨g,0,none⟩),ai iI] w (aX fun v w'=>∃fO fN,∃fE:Nat,v= .tuple #[b7 (aW T o).first,b7 (aW T o).last]∧ax w [aQ g #[aH la l lc,.slice oa on oc] 189,ag br (.slice oa on oc) 193 o] w' [aQ g #[aH la l lc,.slice fO fE fN] 189,ag br (.slice fO fE fN) 193 ((aW T o).s)])) (Hm:∀(g:Nat) (la:aP) (l:List Nd) (lc:Nat) (oa:aP) (o:List aR) (oc:Nat) (on:Nat) (n:Nd) (kI:Int) (k:Nat) (A:Tr) (w:World) (hp:Hp w [aQ g #[aH la l lc,.slice oa on oc] 189,ag br (.slice oa on oc) 193 o]) (rl:cP aJ w la l lc) (Uh:kI=((k:Nat):Int)) (hT:Sub l k A) (bB:fM A) (hn:0≤n.lo∧n.lo≤32∧(n.hi= -1∨n.lo≤n.hi∧n.hi≤32)) (hz:o.length+(2+n.lo.toNat*bA A+(if n.hi<0 then bA A+1 else (n.hi-n.lo).toNat*(bA A+1)))≤100000) (hl:l.length≤512) (dq:eG (aH la l lc) [aQ g #[aH la l lc,.slice oa on oc] 189,ag br (.slice oa on oc) 193 o]) (cF:2*k+1<N),Calls Tryz.prog 152 #[.pointer (some ⟨g,0,none⟩),.agg #[ai n.kind,aj n.set.w0,aj n.set.w1,aj n.set.w2,aj n.set.w3,ai n.lo,ai n.hi],ai kI] w (aX fun v w'=>∃fO fN,∃fE:Nat,v= .tuple #[b7 (jE (aW A) n o).first,b7 (jE (aW A) n o).last]∧ax w [aQ g #[aH la l lc,.slice oa on oc] 189,ag br (.slice oa on oc) 193 o] w' [aQ g #[aH la l lc,.slice fO fE fN] 189,ag br (.slice fO fE fN) 193 ((jE (aW A) n o).s)])):
 Calls Tryz.prog 110 #[.pointer (some ⟨g,0,none⟩),ai iI] w (aX fun v w'=>∃fO fN,∃fE:Nat,v= .tuple #[b7 (aW T o).first,b7 (aW T o).last]∧ax w [aQ g #[aH la l lc,.slice oa on oc] 189,ag br (.slice oa on oc) 193 o] w' [aQ g #[aH la l lc,.slice fO fE fN] 189,ag br (.slice fO fE fN) 193 ((aW T o).s)]):=by
 subst kE
 obtain rfl:on=o.length:=(cC hp (List.mem_of_getElem? (i:=1) rfl)).len
 have hi:=hT.2.1
 have hTl:=hT.le
 have eI:=rl.le
 refine tW hp Tryz.func110 (h:=fun H0=>ab 11 (h:=aM (H0.b 0) (k:=ab 1 (h:=aA (c:=yf la l lc _ i T w (rl.keep H0.keep dq) oz hT) (k:=?_)))))
 rintro _ w1 ⟨bH,b6,rfl,u1⟩
 have H1:=H0.ns u1
 refine ab 9 (h:=aM (H1.b 0) (k:=ab 1 (h:=jb i (rl.keep H1.keep dq) (k:=ab 0 (h:=Fl (rl.keep H1.keep dq) (k:=ab 0 (h:=dB H1 (k:=fun w2 H2=>aY 0 (h:=bL H2 3 (k:=fun w3 H3=>ab 5 (h:=aM (H3.b 3) (k:=aC 9 (fun c74=>?_) fun c74=>?_))))))))))))
 refine ab 4 (h:=cd (H3.b 3) (k:=ab 0 (h:=cu (k:=?_))))
 have H4:av _ _ _ [[_,_],[_],[_]]:=av.of (ax.iW H3 (l:=[0,1,2,3]) rfl rfl) rfl
 refine ab 0 (h:=aA (c:=oY _ la l lc oa o oc o.length (⟨1,0,0,(l.getD i cQ).set⟩:aR) w3 (H4.dr 0) oz) (k:=?_))
 rintro _ w4 ⟨eV,eU,gr,rfl,u4⟩
 have H5:=H4.un 0 u4
 refine gh 7 (h:=?_)
 obtain ⟨n5,fJ,bm⟩:=eD hT oz
 have Fs:=hT.1
 rw [fJ] at Fs
 simp only [Tr.wk] at Fs
 rw [bm] at Fs
 have rv:=cW.set bB.root
 rw [fJ] at rv
 have e:=uB (n:=n5) (o:=o) (t:=⟨1,0,0,(l.getD i cQ).set⟩) (by unfold jL;simp only;rw [bm];split<;>(try split)<;>omega) rfl (by rw [bm])
 rw [fJ,e]
 exact ⟨eV,eU,gr,rfl,(H5.se [0,1])⟩
 refine aC 6 (fun c76=>?_) fun c76=>?_
 refine ab 3 (h:=cu (us:=[ai 4,ai 0,ai 0,aj Bs.zero.w0,aj Bs.zero.w1,aj Bs.zero.w2,aj Bs.zero.w3]) (k:=?_))
 have H6:av _ _ _ [[_,_],[_],[_]]:=av.of (ax.iW H3 (l:=[0,1,2,3]) rfl rfl) rfl
 refine ab 0 (h:=aA (c:=oY _ la l lc oa o oc o.length (⟨4,0,0,Bs.zero⟩:aR) w3 (H6.dr 0) oz) (k:=?_))
 rintro _ w5 ⟨qY,qX,pP,rfl,u5⟩
 have H7:=H6.un 0 u5
 refine gh 7 (h:=?_)
 obtain ⟨n5,fJ,bm⟩:=eD hT oz
 have Fs:=hT.1
 rw [fJ] at Fs
 simp only [Tr.wk] at Fs
 rw [bm] at Fs
 have rv:=cW.set bB.root
 rw [fJ] at rv
 have e:=uB (n:=n5) (o:=o) (t:=⟨4,0,0,Bs.zero⟩) (by unfold jL;simp only;rw [bm];split<;>(try split)<;>omega) rfl (by exact (rv (by show¬n5.kind=1;rw [bm];omega)).symm)
 rw [fJ,e]
 exact ⟨qY,qX,pP,rfl,(H7.se [0,1])⟩
 refine aC 6 (fun c78=>?_) fun c78=>?_
 refine ab 3 (h:=cu (us:=[ai 5,ai 0,ai 0,aj Bs.zero.w0,aj Bs.zero.w1,aj Bs.zero.w2,aj Bs.zero.w3]) (k:=?_))
 have H8:av _ _ _ [[_,_],[_],[_]]:=av.of (ax.iW H3 (l:=[0,1,2,3]) rfl rfl) rfl
 refine ab 0 (h:=aA (c:=oY _ la l lc oa o oc o.length (⟨5,0,0,Bs.zero⟩:aR) w3 (H8.dr 0) oz) (k:=?_))
 rintro _ w6 ⟨vC,vB,vA,rfl,u6⟩
 have H9:=H8.un 0 u6
 refine cv 6 [5,4] (h:=gh 1 (h:=?_))
 obtain ⟨n5,fJ,bm⟩:=eD hT oz
 have Fs:=hT.1
 rw [fJ] at Fs
 simp only [Tr.wk] at Fs
 rw [bm] at Fs
 have rv:=cW.set bB.root
 rw [fJ] at rv
 have e:=uB (n:=n5) (o:=o) (t:=⟨5,0,0,Bs.zero⟩) (by unfold jL;simp only;rw [bm];split<;>(try split)<;>omega) rfl (by exact (rv (by show¬n5.kind=1;rw [bm];omega)).symm)
 rw [fJ,e]
 exact ⟨vC,vB,vA,rfl,(H9.se [0,1])⟩
 refine aC 6 (fun VU=>?_) fun VU=>?_
 obtain ⟨n5,a5,b5,fJ,bm,Aq,MM,CT,OC,ML,tF,sN⟩:=lP hT oz
 have Tz:=gb a5 o
 have Fy:=gb b5 (aW a5 o).s
 have Tw:fM a5:=by subst fJ;exact bB.kO
 have Tv:fM b5:=by subst fJ;exact bB.kN
 have hzb:bA T=bA a5+bA b5:=by rw [fJ];exact En (by rw [bm];omega)
 refine ab 4 (h:=cg 0 (H3.rt 2) (k:=ab 0 (h:=cI (H3.rt 2) (k:=?_))))
 have bW:av _ _ _ [[_,_],[_],[_]]:=av.of (ax.iW H3 (l:=[0,1,2,3]) rfl rfl) rfl
 refine ab 0 (h:=aA (c:=Aj _ la l lc oa o oc o.length _ (((bQ T i).getD 0 0).toNat) a5 w3 (bW.dr 0) (rl.keep bW.keep dq) oz (by first|exact tF|exact sN) (by first|exact Tw|exact Tv) oz hl (eG.of dq rl oz bW 0 rfl) oz) (k:=?_))
 rintro _ w7 ⟨Cq,Cl,Cg,rfl,u7⟩
 have bP:=bW.un 0 u7
 refine cv 7 [9,8,6,5,4,0] (h:=ab 4 (h:=cg 1 (bP.rt 1) (k:=ab 0 (h:=cI (bP.rt 1) (k:=ab 0 (h:=aA (c:=Aj _ la l lc Cq ((aW a5 o).s) Cl Cg _ (((bQ T i).getD 1 0).toNat) b5 w7 (bP.dr 0) (rl.keep bP.keep dq) oz (by first|exact tF|exact sN) (by first|exact Tw|exact Tv) oz hl (eG.of dq rl oz bP 0 rfl) oz) (k:=?_)))))))
 rintro _ w8 ⟨Co,Ck,Cf,rfl,u8⟩
 have ck:=bP.un 0 u8
 refine ab 12 (h:=aA (c:=jJ _ la l lc Co ((aW b5 ((aW a5 o).s)).s) Ck Cf _ ((aW a5 o).last) _ w8 (ck.dr 0) oz nP) (k:=?_))
 rintro _ w9 ⟨Cn,Cj,Ce,rfl,u9⟩
 have cU:=ck.un 0 u9
 refine gh 11 (h:=?_)
 rw [fJ,S0 (by rw [bm];omega)]
 exact ⟨Cn,Cj,Ce,rfl,(cU.se [0,1])⟩
 refine cv 6 [78,30,7,6,5,4,0] (h:=aC 0 (fun c85=>?_) fun c85=>?_)
 obtain ⟨n5,a5,b5,fJ,bm,Aq,MM,CT,OC,ML,tF,sN⟩:=lP hT oz
 have Tz:=gb a5 o
 have Fy:=gb b5 (aW a5 o).s
 have Tw:fM a5:=by subst fJ;exact bB.kO
 have Tv:fM b5:=by subst fJ;exact bB.kN
 have hzb:bA T=bA a5+bA b5+2:=by rw [fJ];exact Em (by rw [bm];omega)
 refine ab 4 (h:=cg 0 (H3.rt 2) (k:=ab 0 (h:=cI (H3.rt 2) (k:=?_))))
 have cN:av _ _ _ [[_,_],[_],[_]]:=av.of (ax.iW H3 (l:=[0,1,2,3]) rfl rfl) rfl
 refine ab 0 (h:=aA (c:=Aj _ la l lc oa o oc o.length _ (((bQ T i).getD 0 0).toNat) a5 w3 (cN.dr 0) (rl.keep cN.keep dq) oz (by first|exact tF|exact sN) (by first|exact Tw|exact Tv) oz hl (eG.of dq rl oz cN 0 rfl) oz) (k:=?_))
 rintro _ iy ⟨Cm,Ci,Cd,rfl,uU⟩
 have dt:=cN.un 0 uU
 refine ab 11 (h:=cg 1 (dt.rt 1) (k:=ab 0 (h:=cI (dt.rt 1) (k:=ab 0 (h:=aA (c:=Aj _ la l lc Cm ((aW a5 o).s) Ci Cd _ (((bQ T i).getD 1 0).toNat) b5 iy (dt.dr 0) (rl.keep dt.keep dq) oz (by first|exact tF|exact sN) (by first|exact Tw|exact Tv) oz hl (eG.of dq rl oz dt 0 rfl) oz) (k:=?_))))))
 rintro _ gS ⟨L0,LY,LV,rfl,xr⟩
 have dw:=dt.un 0 xr
 refine ab 12 (h:=cu (us:=[ai 3,b7 (aW a5 o).first,b7 (aW b5 ((aW a5 o).s)).first,aj Bs.zero.w0,aj Bs.zero.w1,aj Bs.zero.w2,aj Bs.zero.w3]) (k:=ab 0 (h:=aA (c:=kl _ la l lc L0 ((aW b5 ((aW a5 o).s)).s) LY LV (⟨3,(((aW a5 o).first:Nat):Int),(((aW b5 ((aW a5 o).s)).first:Nat):Int),Bs.zero⟩:aR) gS (dw.dr 0) nP) (k:=?_))))
 rintro _ jz ⟨LZ,LX,LU,rfl,tV⟩
 have fH:=dw.un 0 tV
 refine cv 3 [4,15,13,5,0] (h:=ab 3 (h:=aA (c:=kn _ la l lc LZ (((aW b5 ((aW a5 o).s)).s)++[(⟨3,(((aW a5 o).first:Nat):Int),(((aW b5 ((aW a5 o).s)).first:Nat):Int),Bs.zero⟩:aR)]) LX LU jz (fH.dr 0) nP) (k:=?_)))
 rintro _ kK ⟨E2,EY,EU,rfl,zu⟩
 have il:=fH.un 0 zu
 refine ab 8 (h:=aA (c:=jJ _ la l lc E2 ((((aW b5 ((aW a5 o).s)).s)++[(⟨3,(((aW a5 o).first:Nat):Int),(((aW b5 ((aW a5 o).s)).first:Nat):Int),Bs.zero⟩:aR)])++[emp]) EY EU _ ((aW a5 o).last) _ kK (il.dr 0) oz nP) (k:=?_))
 rintro _ nH ⟨E1,EX,ET,rfl,OO⟩
 have jh:=il.un 0 OO
 refine ab 7 (h:=aA (c:=jJ _ la l lc E1 (dy ((((aW b5 ((aW a5 o).s)).s)++[(⟨3,(((aW a5 o).first:Nat):Int),(((aW b5 ((aW a5 o).s)).first:Nat):Int),Bs.zero⟩:aR)])++[emp]) ((aW a5 o).last) (((((aW b5 ((aW a5 o).s)).s)++[(⟨3,(((aW a5 o).first:Nat):Int),(((aW b5 ((aW a5 o).s)).first:Nat):Int),Bs.zero⟩:aR)]).length:Nat):Int)) EX ET _ ((aW b5 ((aW a5 o).s)).last) _ nH (jh.dr 0) oz nP) (k:=?_))
 rintro _ tU ⟨E0,EW,ES,rfl,ON⟩
 have eH:=jh.un 0 ON
 refine gh 11 (h:=?_)
 rw [fJ,Xj (by rw [bm];omega) rfl]
 exact ⟨E0,EW,ES,rfl,(eH.se [0,1])⟩
 refine aC 6 (fun c93=>?_) fun c93=>?_
 obtain ⟨n5,a5,fJ,bm,Aq,MM,CT,tF⟩:=vQ hT oz
 have Tw:fM a5:=by subst fJ;exact bB.rep
 have D3:=cW.rep (n:=n5) (by subst fJ;exact bB.root) (by rw [bm];omega)
 rw [bm] at D3
 have hzb:bA T=2+(l.getD i cQ).lo.toNat*bA a5+(if (l.getD i cQ).hi<0 then bA a5+1 else ((l.getD i cQ).hi-(l.getD i cQ).lo).toNat*(bA a5+1)):=by rw [fJ,bm];exact IS _ _
 refine fI 1 H3 (h:=fun ur lf=>c7 1 1 (lf.b 3) (D:=fun _ hC=>cd hC) (h:=cp 1 3 (lf.rt 2) (D:=fun _ hC=>cg 0 hC) (h:=cp 0 4 (lf.rt 2) (D:=fun _ hC=>cI hC) (h:=?_))))
 have ji:av _ _ _ [[_,_],[_],[_]]:=av.of (ax.iW lf (l:=[0,1,2,3]) rfl rfl) rfl
 refine dj 0 5 (D:=aA (c:=Hm _ la l lc oa o oc o.length (l.getD i cQ) _ (((bQ T i).getD 0 0).toNat) a5 ur (ji.dr 0) (rl.keep ji.keep dq) oz tF Tw D3 (by rw [hzb] at hz;exact hz) hl (eG.of dq rl oz ji 0 rfl) oz) (k:=?_))
 rintro _ xq ⟨EZ,EV,ER,rfl,u16⟩
 have oI:=ji.un 0 u16
 refine ⟨trivial,?_⟩
 refine gh 7 (h:=?_)
 rw [fJ,SZ,bm]
 exact ⟨EZ,EV,ER,rfl,(oI.se [0,1])⟩
 refine ab 6 (h:=cu (us:=[ai 2,ai 0,ai 0,aj Bs.zero.w0,aj Bs.zero.w1,aj Bs.zero.w2,aj Bs.zero.w3]) (k:=?_))
 have nF:av _ _ _ [[_,_],[_],[_]]:=av.of (ax.iW H3 (l:=[0,1,2,3]) rfl rfl) rfl
 refine ab 0 (h:=aA (c:=oY _ la l lc oa o oc o.length (⟨2,0,0,Bs.zero⟩:aR) w3 (nF.dr 0) oz) (k:=?_))
 rintro _ zn ⟨SS,SR,SQ,rfl,Iz⟩
 have nE:=nF.un 0 Iz
 refine gh 7 (h:=?_)
 obtain ⟨n5,fJ,bm⟩:=eD hT oz
 have Fs:=hT.1
 rw [fJ] at Fs
 simp only [Tr.wk] at Fs
 rw [bm] at Fs
 have rv:=cW.set bB.root
 rw [fJ] at rv
 have e:=uB (n:=n5) (o:=o) (t:=⟨2,0,0,Bs.zero⟩) (by unfold jL;simp only;rw [bm];split<;>(try split)<;>omega) rfl (by exact (rv (by show¬n5.kind=1;rw [bm];omega)).symm)
 rw [fJ,e]
 exact ⟨SS,SR,SQ,rfl,(nE.se [0,1])⟩
theorem xC (g:Nat) (la:aP) (l:List Nd) (lc:Nat) (oa:aP) (o:List aR) (oc:Nat) (on:Nat) (n:Nd) (kI:Int) (k:Nat) (A:Tr) (N:Nat) (w:World) (hp:Hp w [aQ g #[aH la l lc,.slice oa on oc] 189,ag br (.slice oa on oc) 193 o]) (rl:cP aJ w la l lc) (Uh:kI=((k:Nat):Int)) (hT:Sub l k A) (bB:fM A) (hn:0≤n.lo∧n.lo≤32∧(n.hi= -1∨n.lo≤n.hi∧n.hi≤32)) (hz:o.length+(2+n.lo.toNat*bA A+(if n.hi<0 then bA A+1 else (n.hi-n.lo).toNat*(bA A+1)))≤100000) (hl:l.length≤512) (dq:eG (aH la l lc) [aQ g #[aH la l lc,.slice oa on oc] 189,ag br (.slice oa on oc) 193 o]) (hN:2*k+1<N+1) (Aj:∀(g:Nat) (la:aP) (l:List Nd) (lc:Nat) (oa:aP) (o:List aR) (oc:Nat) (on:Nat) (iI:Int) (i:Nat) (T:Tr) (w:World) (hp:Hp w [aQ g #[aH la l lc,.slice oa on oc] 189,ag br (.slice oa on oc) 193 o]) (rl:cP aJ w la l lc) (kE:iI=((i:Nat):Int)) (hT:Sub l i T) (bB:fM T) (hz:o.length+bA T≤100000) (hl:l.length≤512) (dq:eG (aH la l lc) [aQ g #[aH la l lc,.slice oa on oc] 189,ag br (.slice oa on oc) 193 o]) (cF:2*i<N),Calls Tryz.prog 110 #[.pointer (some ⟨g,0,none⟩),ai iI] w (aX fun v w'=>∃fO fN,∃fE:Nat,v= .tuple #[b7 (aW T o).first,b7 (aW T o).last]∧ax w [aQ g #[aH la l lc,.slice oa on oc] 189,ag br (.slice oa on oc) 193 o] w' [aQ g #[aH la l lc,.slice fO fE fN] 189,ag br (.slice fO fE fN) 193 ((aW T o).s)])) (Hm:∀(g:Nat) (la:aP) (l:List Nd) (lc:Nat) (oa:aP) (o:List aR) (oc:Nat) (on:Nat) (n:Nd) (kI:Int) (k:Nat) (A:Tr) (w:World) (hp:Hp w [aQ g #[aH la l lc,.slice oa on oc] 189,ag br (.slice oa on oc) 193 o]) (rl:cP aJ w la l lc) (Uh:kI=((k:Nat):Int)) (hT:Sub l k A) (bB:fM A) (hn:0≤n.lo∧n.lo≤32∧(n.hi= -1∨n.lo≤n.hi∧n.hi≤32)) (hz:o.length+(2+n.lo.toNat*bA A+(if n.hi<0 then bA A+1 else (n.hi-n.lo).toNat*(bA A+1)))≤100000) (hl:l.length≤512) (dq:eG (aH la l lc) [aQ g #[aH la l lc,.slice oa on oc] 189,ag br (.slice oa on oc) 193 o]) (cF:2*k+1<N),Calls Tryz.prog 152 #[.pointer (some ⟨g,0,none⟩),.agg #[ai n.kind,aj n.set.w0,aj n.set.w1,aj n.set.w2,aj n.set.w3,ai n.lo,ai n.hi],ai kI] w (aX fun v w'=>∃fO fN,∃fE:Nat,v= .tuple #[b7 (jE (aW A) n o).first,b7 (jE (aW A) n o).last]∧ax w [aQ g #[aH la l lc,.slice oa on oc] 189,ag br (.slice oa on oc) 193 o] w' [aQ g #[aH la l lc,.slice fO fE fN] 189,ag br (.slice fO fE fN) 193 ((jE (aW A) n o).s)])):
 Calls Tryz.prog 152 #[.pointer (some ⟨g,0,none⟩),.agg #[ai n.kind,aj n.set.w0,aj n.set.w1,aj n.set.w2,aj n.set.w3,ai n.lo,ai n.hi],ai kI] w (aX fun v w'=>∃fO fN,∃fE:Nat,v= .tuple #[b7 (jE (aW A) n o).first,b7 (jE (aW A) n o).last]∧ax w [aQ g #[aH la l lc,.slice oa on oc] 189,ag br (.slice oa on oc) 193 o] w' [aQ g #[aH la l lc,.slice fO fE fN] 189,ag br (.slice fO fE fN) 193 ((jE (aW A) n o).s)]):=by
 subst Uh
 obtain rfl:on=o.length:=(cC hp (List.mem_of_getElem? (i:=1) rfl)).len
 have RL:=gb A
 have Aq:=hT.2.1
 have hz0:o.length+2+n.lo.toNat*bA A≤100000:=(by split at hz<;>omega)
 have eI:=rl.le
 refine tW hp Tryz.func152 (h:=fun H0=>ab 2 (h:=jf H0 (k:=fun w1 H1=>?_)))
 have H2:av _ _ _ [[_,_],[_]]:=av.of (ax.iW H1 (l:=[0,1,2]) rfl rfl) rfl
 refine ab 7 (h:=aA (c:=kn _ la l lc oa o oc o.length w1 (H2.dr 0) nP) (k:=?_))
 rintro _ w2 ⟨eV,eU,gr,rfl,u2⟩
 have H3:=H2.un 0 u2
 refine ab 13 (h:=aM (H3.b 1) (k:=?_))
 have H4:=H3.sn
 refine dA 4 [25,8,24,6,7,4,0,2] (fun B R L m e v=>∃j ah,∃q:List aR,∃qa qc,∃qn:Nat,e=(25,b7 j)::(8,b7 ah)::B∧av w L v ([aQ g #[aH la l lc,.slice qa qn qc] 189]::[ag br (.slice qa qn qc) 193 q]::R)∧(j≤n.lo.toNat)∧(eW (aW A) j (o++[emp],o.length)=(q,ah))∧m=n.lo.toNat-j) (i:=⟨0,o.length,o++[emp],eV,eU,gr,rfl,H4,om,rfl,rfl⟩) (h:=?_)
 rintro m1 Γ1 w3 ⟨j,ah,q,qa,qc,qn,rfl,H5,hj,hr,rfl⟩
 have XS:=Pw RL hr hj
 have hmq:=RL q
 refine aC 6 (fun c41=>?_) fun c41=>?_
 have H6:av _ _ _ [[_,_],[_]]:=av.of (ax.iW H5 (l:=[0,1,2]) rfl rfl) rfl
 refine ab 8 (h:=aA (c:=Aj _ la l lc qa q qc qn _ k A w3 (H6.dr 0) (rl.keep H6.keep dq) oz hT bB oz hl (eG.of dq rl oz H6 0 rfl) oz) (k:=?_))
 rintro _ w4 ⟨qY,qX,pP,rfl,u3⟩
 have H7:=H6.un 0 u3
 refine ab 12 (h:=aA (c:=jJ _ la l lc qY ((aW A q).s) qX pP _ ah _ w4 (H7.dr 0) oz nP) (k:=?_))
 rintro _ w5 ⟨vC,vB,vA,rfl,u4⟩
 have H8:=H7.un 0 u4
 exact ab 9 (h:=aV (k:=cm 2 (h:=by exact ⟨j+1,(aW A q).last,dy ((aW A q).s) ah (((aW A q).first:Nat):Int),vC,vB,vA,rfl,(H8.re rfl),om,(by exact Pv hr),rfl⟩)))
 have hje:j=n.lo.toNat:=by omega
 rw [hje] at hr
 have H9:=H5.nr (aw .i64) 3
 have bW:=H9.ps [0,1,3,2]
 refine o9 7 [6,0] 3 bW (fun B R L e v=>∃Mn,∃sI:List Int,∃SD SC,∃q3:List aR,∃ZY ZX,∃ZW:Nat,e=(11,aH SD sI SC)::(7,b7 Mn)::B∧av w L v ([aQ g #[aH la l lc,.slice ZY ZW ZX] 189]::[ag br (.slice ZY ZW ZX) 193 q3]::[cE (aw .i64) 3 SD sI SC]::R)∧(Vh (aW A) n o q3 sI Mn)∧(Mn<1000000)∧(sI.length≤100)) ?_ ?_
 refine ab 3 (h:=aM (bW.b 3) (k:=aC 3 (fun NQ=>?_) fun NQ=>?_))
 try rw [if_pos NQ] at hz
 have bP:av _ _ _ [[_,_],[_],[_]]:=av.of (ax.iW bW (l:=[0,1,2,3]) rfl rfl) rfl
 refine ab 4 (h:=aA (c:=Aj _ la l lc qa q qc qn _ k A w3 (bP.dr 0) (rl.keep bP.keep dq) oz hT bB oz hl (eG.of dq rl oz bP 0 rfl) oz) (k:=?_))
 rintro _ w6 ⟨Cq,Cl,Cg,rfl,u5⟩
 have ck:=bP.un 0 u5
 refine ab 11 (h:=cu (us:=[ai 3,b7 (aW A q).first,ai 0,aj Bs.zero.w0,aj Bs.zero.w1,aj Bs.zero.w2,aj Bs.zero.w3]) (k:=ab 0 (h:=aA (c:=kl _ la l lc Cq ((aW A q).s) Cl Cg (⟨3,(((aW A q).first:Nat):Int),0,Bs.zero⟩:aR) w6 (ck.dr 0) nP) (k:=?_))))
 rintro _ w7 ⟨Co,Ck,Cf,rfl,u6⟩
 have cU:=ck.un 0 u6
 refine ab 8 (h:=aA (c:=jJ _ la l lc Co (((aW A q).s)++[(⟨3,(((aW A q).first:Nat):Int),0,Bs.zero⟩:aR)]) Ck Cf _ ah _ w7 (cU.dr 0) oz nP) (k:=?_))
 rintro _ w8 ⟨Cn,Cj,Ce,rfl,u7⟩
 have cN:=cU.un 0 u7
 refine ab 6 (h:=dL (aw .i64) [((((aW A q).s).length:Nat):Int)] cN (k:=fun w9 dt=>ab 0 (h:=kJ dt 1 (dt.rt 3) (hb:=dD) (kW:=dD) (k:=fun a1 c1 iy Oi=>?_))))
 have dw:=(Oi.drop 3).no
 refine cv 5 [11,14,13,6,7,0] (h:=ab 3 (h:=aA (c:=kn _ la l lc Cn (dy (((aW A q).s)++[(⟨3,(((aW A q).first:Nat):Int),0,Bs.zero⟩:aR)]) ah ((((aW A q).s).length:Nat):Int)) Cj Ce iy (dw.dr 0) nP) (k:=?_)))
 rintro _ gS ⟨Cm,Ci,Cd,rfl,uU⟩
 have fH:=dw.un 0 uU
 refine ab 7 (h:=aA (c:=jJ _ la l lc Cm ((dy (((aW A q).s)++[(⟨3,(((aW A q).first:Nat):Int),0,Bs.zero⟩:aR)]) ah ((((aW A q).s).length:Nat):Int))++[emp]) Ci Cd _ ((aW A q).last) _ gS (fH.dr 0) oz nP) (k:=?_))
 rintro _ jz ⟨L0,LY,LV,rfl,xr⟩
 have il:=fH.un 0 xr
 exact cA 1 (h:=by exact ⟨(dy (((aW A q).s)++[(⟨3,(((aW A q).first:Nat):Int),0,Bs.zero⟩:aR)]) ah ((((aW A q).s).length:Nat):Int)).length,([]:List Int)++[((((aW A q).s).length:Nat):Int)],a1,c1,dy ((dy (((aW A q).s)++[(⟨3,(((aW A q).first:Nat):Int),0,Bs.zero⟩:aR)]) ah ((((aW A q).s).length:Nat):Int))++[emp]) ((aW A q).last) ((((aW A q).s).length:Nat):Int),L0,LY,LV,rfl,(il.re rfl),(by first|exact BX RL NQ hr rfl|exact BW RL NQ hr XS.2.1 lu hsI),nP,(by first|omega|simp)⟩)
 try rw [if_neg NQ] at hz
 refine ab 4 (h:=aM (bW.b 3) (k:=ab 1 (h:=aM (bW.b 3) (k:=ab 0 (h:=kB (k:=dA 4 [72,11,8,71,6,7,0,2] (fun B R L m e v=>∃j2 Ea,∃sp:List Nat,∃sI:List Int,∃SD SC,∃q2:List aR,∃WR WQ,∃WO:Nat,e=(72,b7 j2)::(11,aH SD sI SC)::(8,b7 Ea)::B∧av w L v ([aQ g #[aH la l lc,.slice WR WO WQ] 189]::[ag br (.slice WR WO WQ) 193 q2]::[cE (aw .i64) 3 SD sI SC]::R)∧(j2≤(n.hi-n.lo).toNat)∧(cY (aW A) j2 (q,ah)=(q2,Ea,sp))∧(sI=qe sp)∧m=(n.hi-n.lo).toNat-j2) (i:=⟨0,ah,([]:List Nat),([]:List Int),none,0,q,qa,qc,qn,rfl,bW,om,rfl,rfl,rfl⟩) (h:=?_)))))))
 rintro m2 Γ2 kK ⟨j2,Ea,sp,sI,SD,SC,q2,WR,WQ,WO,rfl,jh,yT,lu,hsI,rfl⟩
 have hhf:=Hw RL XS.2.1 lu yT
 have ah3:=RL q2
 have ahw:sI.length=sp.length:=by rw [hsI];exact vI sp
 try rw [if_neg NQ] at hz
 refine aC 6 (fun Y9=>?_) fun Y9=>?_
 have eH:av _ _ _ [[_,_],[_],[_]]:=av.of (ax.iW jh (l:=[0,1,2,3]) rfl rfl) rfl
 refine ab 8 (h:=aA (c:=Aj _ la l lc WR q2 WQ WO _ k A kK (eH.dr 0) (rl.keep eH.keep dq) oz hT bB oz hl (eG.of dq rl oz eH 0 rfl) oz) (k:=?_))
 rintro _ nH ⟨LZ,LX,LU,rfl,tV⟩
 have lf:=eH.un 0 tV
 refine ab 11 (h:=cu (us:=[ai 3,b7 (aW A q2).first,ai 0,aj Bs.zero.w0,aj Bs.zero.w1,aj Bs.zero.w2,aj Bs.zero.w3]) (k:=ab 0 (h:=aA (c:=kl _ la l lc LZ ((aW A q2).s) LX LU (⟨3,(((aW A q2).first:Nat):Int),0,Bs.zero⟩:aR) nH (lf.dr 0) nP) (k:=?_))))
 rintro _ tU ⟨E2,EY,EU,rfl,zu⟩
 have ji:=lf.un 0 zu
 refine ab 8 (h:=aA (c:=jJ _ la l lc E2 (((aW A q2).s)++[(⟨3,(((aW A q2).first:Nat):Int),0,Bs.zero⟩:aR)]) EY EU _ Ea _ tU (ji.dr 0) oz nP) (k:=?_))
 rintro _ ur ⟨E1,EX,ET,rfl,OO⟩
 have oI:=ji.un 0 OO
 refine ab 5 (h:=dL (aw .i64) [((((aW A q2).s).length:Nat):Int)] oI (k:=fun xq nF=>ab 0 (h:=kJ nF 1 (nF.rt 3) (hb:=dD) (kW:=dD) (k:=fun a2 c2 zn Vn=>?_))))
 have nE:=(Vn.drop 3).no
 refine cv 6 [8,11,72,71,6,7,0,2] (h:=?_)
 try rw [if_neg NQ] at hz
 exact ab 1 (h:=aV (k:=cm 2 (h:=by exact ⟨j2+1,(aW A q2).last,sp++[(aW A q2).s.length],sI++[((((aW A q2).s).length:Nat):Int)],a2,c2,dy (((aW A q2).s)++[(⟨3,(((aW A q2).first:Nat):Int),0,Bs.zero⟩:aR)]) Ea ((((aW A q2).s).length:Nat):Int),E1,EX,ET,rfl,(nE.re rfl),om,(by exact PV lu),(by rw [hsI,vJ];rfl),rfl⟩)))
 have acN:j2=(n.hi-n.lo).toNat:=by omega
 rw [acN] at lu
 have pM:av _ _ _ [[_,_],[_],[_]]:=av.of (ax.iW jh (l:=[0,1,2,3]) rfl rfl) rfl
 refine ab 5 (h:=aA (c:=kn _ la l lc WR q2 WQ WO kK (pM.dr 0) nP) (k:=?_))
 rintro _ zm ⟨E0,EW,ES,rfl,Iz⟩
 have pL:=pM.un 0 Iz
 refine ab 7 (h:=aA (c:=jJ _ la l lc E0 (q2++[emp]) EW ES _ Ea _ zm (pL.dr 0) oz nP) (k:=?_))
 rintro _ Ix ⟨EZ,EV,ER,rfl,Sp⟩
 have rW:=pL.un 0 Sp
 exact cA 1 (h:=by exact ⟨q2.length,sI,SD,SC,dy (q2++[emp]) Ea ((q2.length:Nat):Int),EZ,EV,ER,rfl,(rW.re rfl),(by first|exact BX RL NQ hr rfl|exact BW RL NQ hr XS.2.1 lu hsI),nP,(by first|omega|simp)⟩)
 rintro Γ3 Q9 ⟨Mn,sg,afj,afi,q3,ZY,ZX,ZW,rfl,tS,hRE,Ht,Xx⟩
 obtain ⟨sp,VB,aci,hrp⟩:=hRE
 have ahu:sg.length=sp.length:=by rw [VB];exact vI sp
 refine dA 9 [102,101,100,7,6,0] (fun B R L m e v=>∃j3,∃q4:List aR,∃WN WM,∃WK:Nat,e=(102,b7 j3)::B∧av w L v ([aQ g #[aH la l lc,.slice WN WK WM] 189]::[ag br (.slice WN WK WM) 193 q4]::R)∧(j3≤sg.length)∧(q4=fK q3 (sp.take j3) ((Mn:Nat):Int))∧m=sg.length-j3) (i:=⟨0,q3,ZY,ZX,ZW,rfl,tS,om,rfl,rfl⟩) (h:=?_)
 rintro m3 Γ4 Oo ⟨j3,q4,WN,WM,WK,rfl,pK,hj3,hq4,rfl⟩
 have ahI:q4.length=q3.length:=by rw [hq4];exact oQ _ _ _
 refine aC 6 (fun QG=>?_) fun QG=>?_
 refine ab 6 (h:=cg j3 (pK.rt 2) (k:=ab 0 (h:=cI (pK.rt 2) (k:=?_))))
 have hgj:sg.getD j3 0=((sp.getD j3 0:Nat):Int):=by rw [VB];exact Ma sp j3
 have hgb:=aci _ (ak (d:=0) (show j3<sp.length by omega))
 exact ab 7 (h:=aM (pK.b 0) (k:=ab 2 (h:=jb ((sg.getD j3 0).toNat) (pK.rt 1) (cD:=oz) (k:=ab 0 (h:=j4 (pK.rt 1) (k:=aY 0 (h:=SE (⟨(q4.getD ((sg.getD j3 0).toNat) ay).kind,(q4.getD ((sg.getD j3 0).toNat) ay).a,((Mn:Nat):Int),(q4.getD ((sg.getD j3 0).toNat) ay).set⟩:aR) pK 1 (k:=fun Om mf=>ab 4 (h:=aV (k:=cm 2 (h:=by exact ⟨j3+1,q4.set ((sg.getD j3 0).toNat) (⟨(q4.getD ((sg.getD j3 0).toNat) ay).kind,(q4.getD ((sg.getD j3 0).toNat) ay).a,((Mn:Nat):Int),(q4.getD ((sg.getD j3 0).toNat) ay).set⟩:aR),WN,WM,WK,rfl,mf,om,(by rw [Ep _ oz,←hq4,←show (sg.getD j3 0).toNat=sp.getD j3 0 by omega];rfl),rfl⟩)))))))))))
 refine gh 11 (h:=?_)
 have e4:q4=fK q3 sp ((Mn:Nat):Int):=by rw [hq4,List.take_of_length_le oz]
 rw [hrp,←e4]
 exact ⟨WN,WM,WK,rfl,(pK.se [0,1])⟩
theorem xD (N:Nat):(∀(g:Nat) (la:aP) (l:List Nd) (lc:Nat) (oa:aP) (o:List aR) (oc:Nat) (on:Nat) (iI:Int) (i:Nat) (T:Tr) (w:World) (hp:Hp w [aQ g #[aH la l lc,.slice oa on oc] 189,ag br (.slice oa on oc) 193 o]) (rl:cP aJ w la l lc) (kE:iI=((i:Nat):Int)) (hT:Sub l i T) (bB:fM T) (hz:o.length+bA T≤100000) (hl:l.length≤512) (dq:eG (aH la l lc) [aQ g #[aH la l lc,.slice oa on oc] 189,ag br (.slice oa on oc) 193 o]) (cF:2*i<N),Calls Tryz.prog 110 #[.pointer (some ⟨g,0,none⟩),ai iI] w (aX fun v w'=>∃fO fN,∃fE:Nat,v= .tuple #[b7 (aW T o).first,b7 (aW T o).last]∧ax w [aQ g #[aH la l lc,.slice oa on oc] 189,ag br (.slice oa on oc) 193 o] w' [aQ g #[aH la l lc,.slice fO fE fN] 189,ag br (.slice fO fE fN) 193 ((aW T o).s)]))∧(∀(g:Nat) (la:aP) (l:List Nd) (lc:Nat) (oa:aP) (o:List aR) (oc:Nat) (on:Nat) (n:Nd) (kI:Int) (k:Nat) (A:Tr) (w:World) (hp:Hp w [aQ g #[aH la l lc,.slice oa on oc] 189,ag br (.slice oa on oc) 193 o]) (rl:cP aJ w la l lc) (Uh:kI=((k:Nat):Int)) (hT:Sub l k A) (bB:fM A) (hn:0≤n.lo∧n.lo≤32∧(n.hi= -1∨n.lo≤n.hi∧n.hi≤32)) (hz:o.length+(2+n.lo.toNat*bA A+(if n.hi<0 then bA A+1 else (n.hi-n.lo).toNat*(bA A+1)))≤100000) (hl:l.length≤512) (dq:eG (aH la l lc) [aQ g #[aH la l lc,.slice oa on oc] 189,ag br (.slice oa on oc) 193 o]) (cF:2*k+1<N),Calls Tryz.prog 152 #[.pointer (some ⟨g,0,none⟩),.agg #[ai n.kind,aj n.set.w0,aj n.set.w1,aj n.set.w2,aj n.set.w3,ai n.lo,ai n.hi],ai kI] w (aX fun v w'=>∃fO fN,∃fE:Nat,v= .tuple #[b7 (jE (aW A) n o).first,b7 (jE (aW A) n o).last]∧ax w [aQ g #[aH la l lc,.slice oa on oc] 189,ag br (.slice oa on oc) 193 o] w' [aQ g #[aH la l lc,.slice fO fE fN] 189,ag br (.slice fO fE fN) 193 ((jE (aW A) n o).s)])):=by
 induction N with
 | zero=>exact ⟨(by intro g la l lc oa o oc on iI i T w hp rl kE hT bB hz hl dq cF;omega),(by intro g la l lc oa o oc on n kI k A w hp rl Uh hT bB hn hz hl dq cF;omega)⟩
 | succ N ih=>
 obtain ⟨Aj,Hm⟩:=ih
 exact ⟨(by intro g la l lc oa o oc on iI i T w hp rl kE hT bB hz hl dq cF;exact vG g la l lc oa o oc on iI i T N w hp rl kE hT bB hz hl dq cF Aj Hm),(by intro g la l lc oa o oc on n kI k A w hp rl Uh hT bB hn hz hl dq cF;exact xC g la l lc oa o oc on n kI k A N w hp rl Uh hT bB hn hz hl dq cF Aj Hm)⟩
theorem Jo (g:Nat) (la:aP) (l:List Nd) (lc:Nat) (oa:aP) (o:List aR) (oc:Nat) (on:Nat) (iI:Int) (i:Nat) (T:Tr) (w:World) (hp:Hp w [aQ g #[aH la l lc,.slice oa on oc] 189,ag br (.slice oa on oc) 193 o]) (rl:cP aJ w la l lc) (kE:iI=((i:Nat):Int)) (hT:Sub l i T) (bB:fM T) (hz:o.length+bA T≤100000) (hl:l.length≤512) (dq:eG (aH la l lc) [aQ g #[aH la l lc,.slice oa on oc] 189,ag br (.slice oa on oc) 193 o]):
 Calls Tryz.prog 110 #[.pointer (some ⟨g,0,none⟩),ai iI] w (aX fun v w'=>∃fO fN,∃fE:Nat,v= .tuple #[b7 (aW T o).first,b7 (aW T o).last]∧ax w [aQ g #[aH la l lc,.slice oa on oc] 189,ag br (.slice oa on oc) 193 o] w' [aQ g #[aH la l lc,.slice fO fE fN] 189,ag br (.slice fO fE fN) 193 ((aW T o).s)]):=(xD (2*i+1)).1 g la l lc oa o oc on iI i T w hp rl kE hT bB hz hl dq oz
theorem yw (la:aP) (l:List Nd) (lc:Nat) (iI:Int) (i:Nat) (T:Tr) (w:World) (rl:cP aJ w la l lc) (kE:iI=((i:Nat):Int)) (hl:l.length≤100000) (hT:Sub l i T):
 Calls Tryz.prog 51 #[aH la l lc,ai iI] w (aX fun v w'=>∃a2,∃c2:Nat,v=aH a2 (bQ T i) c2∧ax w [] w' [cE (aw .i64) 3 a2 (bQ T i) c2]):=by
 subst kE
 have hi:=hT.2.1
 have hTl:=hT.le
 have JS:=dQ hT.1
 have cB:=hT.root.1
 have eI:=rl.le
 refine cH Tryz.func51 (h:=fun H0=>ab 8 (h:=aA (c:=BS la l lc w (rl.at H0) hl) (k:=?_)))
 rintro _ w1 ⟨bH,b6,adN,rfl,u1,X1⟩
 have H1:=H0.ns u1
 refine ab 11 (h:=kB (k:=ab 8 (h:=jb i (rl.at H1) (k:=ab 0 (h:=j4 (rl.at H1) (k:=ab 0 (h:=nu (rl.at H1) (k:=ab 0 (h:=aA (c:=oU _ w1) (k:=?_))))))))))
 rintro _ w2 ⟨rfl,u2⟩
 have H2:=H1.call u2
 have H3:=H2.nr (aw .i64) 3
 have H4:=H3.ps [1,0]
 refine dA 4 [8,7,6,5,4] (fun B R L m e v=>∃o:List Int,∃oa oc,∃at_ n,e=(8,ai n)::(7,ai at_)::(6,aH oa o oc)::B∧av w L v ([cE (aw .i64) 3 oa o oc]::R)∧(DU T i o at_ n)∧(0≤n)∧m=n.toNat) (i:=⟨([]:List Int),none,0,((i:Nat):Int)-1,bR ((l.getD i cQ).kind),rfl,H4,(by rw [cB,JS];exact DU.start T i),(by rw [cB,JS];omega),rfl⟩) (h:=?_)
 rintro m1 Γ1 w3 ⟨o,oa,oc,at_,n,rfl,H5,hK,hn,rfl⟩
 have Fx:=hK.len
 refine aC 7 (fun Y6=>?_) fun Y6=>?_
 obtain ⟨ha0,hai,S,sN,VQ⟩:=DU.step hT hK oz
 have hSl:=sN.le
 have As:=X1.1
 have hae:((at_.toNat:Nat):Int)=at_:=by omega
 have MS:=X1.at sN
 refine ab 7 (h:=dL (aw .i64) [at_] H5 (k:=fun w4 H6=>ab 1 (h:=kJ H6 2 (H6.rt 0) (k:=fun a1 c1 w5 Vi=>?_))))
 have H7:=Vi.no
 exact ab 6 (h:=cg at_.toNat (H7.rt 1) (cD:=oz) (k:=ab 0 (h:=cI (H7.rt 1) (k:=ab 0 (h:=kB (k:=ab 6 (h:=kB (k:=cm 2 (h:=by exact ⟨[at_]++o,a1,c1,(adN.getD at_.toNat 0)-1,n-1,rfl,(H7.pm [2,1] rfl rfl),(by rw [MS,hae];exact VQ),oz,rfl⟩)))))))))
 refine bE 9 (h:=?_)
 have e:o=bQ T i:=hK.fin oz
 rw [e] at H5
 exact ⟨oa,oc,(by rw [e]),(by have hh:=H5.kM 0;exact hh)⟩
theorem sU (n:Int) (w:World):
 Calls Tryz.prog 52 #[ai n] w (aX fun v w'=>v=ai (rN n)∧ax w [] w' []):=by
 refine cH Tryz.func52 (h:=fun H0=>?_)
 exact aN 8 rfl (HQ rfl rfl (bE 4 (h:=⟨rfl,H0.af⟩)))
theorem vk (la:aP) (l:List Nd) (lc:Nat) (iI:Int) (i:Nat) (T:Tr) (N:Nat) (w:World) (rl:cP aJ w la l lc) (kE:iI=((i:Nat):Int)) (hl:l.length≤100000) (hT:Sub l i T) (bB:fM T) (hN:i<N+1) (ih:∀(la:aP) (l:List Nd) (lc:Nat) (iI:Int) (i:Nat) (T:Tr) (w:World) (rl:cP aJ w la l lc) (kE:iI=((i:Nat):Int)) (hl:l.length≤100000) (hT:Sub l i T) (bB:fM T) (cF:i<N),Calls Tryz.prog 33 #[aH la l lc,ai iI] w (aX fun v w'=>v=ai (aU T)∧ax w [] w' [])):
 Calls Tryz.prog 33 #[aH la l lc,ai iI] w (aX fun v w'=>v=ai (aU T)∧ax w [] w' []):=by
 subst kE
 have hi:=hT.2.1
 have eI:=rl.le
 refine cH Tryz.func33 (h:=fun H0=>ab 9 (h:=aA (c:=yw la l lc _ i T w (rl.at H0) oz hl hT) (k:=?_)))
 rintro _ w1 ⟨bH,b6,rfl,u1⟩
 have H1:=H0.ns u1
 refine ab 8 (h:=jb i (rl.at H1) (k:=ab 0 (h:=j4 (rl.at H1) (k:=ab 0 (h:=nu (rl.at H1) (k:=aC 9 (fun UC=>?_) fun UC=>?_))))))
 obtain ⟨n5,a5,b5,fJ,bm,Aq,MM,CT,OC,ML,tF,sN⟩:=lP hT oz
 have hrA:=dx a5 tF.1 (by subst fJ;exact bB.kO)
 have hrB:=dx b5 sN.1 (by subst fJ;exact bB.kN)
 refine fI 1 H1 (h:=fun w2 H2=>cp 2 2 (H2.rt 0) (D:=fun _ hC=>cg 0 hC) (h:=cp 0 3 (H2.rt 0) (D:=fun _ hC=>cI hC) (h:=cp 2 7 (H2.rt 0) (D:=fun _ hC=>cg 1 hC) (h:=cp 0 8 (H2.rt 0) (D:=fun _ hC=>cI hC) (h:=dj 0 4 (D:=aA (c:=ih la l lc _ (((bQ T i).getD 0 0).toNat) _ w2 (rl.at H2) oz hl (by first|exact tF|exact sN) (by subst fJ;first|exact bB.kO|exact bB.kN|exact bB.rep) oz) (k:=?_)))))))
 rintro _ w3 ⟨rfl,u2⟩
 have H3:=H2.call u2
 refine ⟨⟨(H3.rt 0),(H3.rt 0),trivial,trivial,trivial⟩,?_⟩
 refine dj 0 9 (D:=aA (c:=ih la l lc _ (((bQ T i).getD 1 0).toNat) _ w3 (rl.at H3) oz hl (by first|exact tF|exact sN) (by subst fJ;first|exact bB.kO|exact bB.kN|exact bB.rep) oz) (k:=?_))
 rintro _ w4 ⟨rfl,u3⟩
 have H4:=H3.call u3
 refine ⟨trivial,?_⟩
 refine gk 0 10 (D:=fun _=>aV) (h:=dj 0 11 (D:=aA (c:=sU _ w4) (k:=?_)))
 rintro _ w5 ⟨rfl,u4⟩
 have H5:=H4.call u4
 refine ⟨trivial,?_⟩
 exact bE 4 (h:=⟨(by rw [fJ,IQ (by rw [bm];omega)]),H5.af⟩)
 refine aC 6 (fun c88=>?_) fun c88=>?_
 obtain ⟨n5,a5,b5,fJ,bm,Aq,MM,CT,OC,ML,tF,sN⟩:=lP hT oz
 have hrA:=dx a5 tF.1 (by subst fJ;exact bB.kO)
 have hrB:=dx b5 sN.1 (by subst fJ;exact bB.kN)
 refine fI 1 H1 (h:=fun w6 H6=>cp 2 2 (H6.rt 0) (D:=fun _ hC=>cg 0 hC) (h:=cp 0 3 (H6.rt 0) (D:=fun _ hC=>cI hC) (h:=cp 2 7 (H6.rt 0) (D:=fun _ hC=>cg 1 hC) (h:=cp 0 8 (H6.rt 0) (D:=fun _ hC=>cI hC) (h:=dj 0 4 (D:=aA (c:=ih la l lc _ (((bQ T i).getD 0 0).toNat) _ w6 (rl.at H6) oz hl (by first|exact tF|exact sN) (by subst fJ;first|exact bB.kO|exact bB.kN|exact bB.rep) oz) (k:=?_)))))))
 rintro _ w7 ⟨rfl,u5⟩
 have H7:=H6.call u5
 refine ⟨⟨(H7.rt 0),(H7.rt 0),trivial,trivial,trivial⟩,?_⟩
 refine dj 0 9 (D:=aA (c:=ih la l lc _ (((bQ T i).getD 1 0).toNat) _ w7 (rl.at H7) oz hl (by first|exact tF|exact sN) (by subst fJ;first|exact bB.kO|exact bB.kN|exact bB.rep) oz) (k:=?_))
 rintro _ w8 ⟨rfl,u6⟩
 have H8:=H7.call u6
 refine ⟨trivial,?_⟩
 refine gk 0 10 (D:=fun _=>aV) (h:=gk 0 11 (D:=fun _=>aV) (h:=dj 0 12 (D:=aA (c:=sU _ w8) (k:=?_))))
 rintro _ w9 ⟨rfl,u7⟩
 have H9:=H8.call u7
 refine ⟨trivial,?_⟩
 exact bE 4 (h:=⟨(by rw [fJ,IP (by rw [bm];omega)]),H9.af⟩)
 refine aC 6 (fun QE=>?_) fun QE=>?_
 obtain ⟨n5,a5,fJ,bm,Aq,MM,CT,tF⟩:=vQ hT oz
 have D3:=cW.rep (n:=n5) (by subst fJ;exact bB.root) (by rw [bm];omega)
 have hrA:=dx a5 tF.1 (by subst fJ;exact bB.rep)
 have JJ:=zH (n:=n5) (x:=aU a5) D3 ⟨by omega,hrA.2⟩
 rw [bm] at D3 JJ
 refine ab 4 (h:=cg 0 (H1.rt 0) (k:=ab 0 (h:=cI (H1.rt 0) (k:=ab 0 (h:=aA (c:=ih la l lc _ (((bQ T i).getD 0 0).toNat) _ w1 (rl.at H1) oz hl (by first|exact tF|exact sN) (by subst fJ;first|exact bB.kO|exact bB.kN|exact bB.rep) oz) (k:=?_))))))
 rintro _ iy ⟨rfl,u8⟩
 have bW:=H1.call u8
 refine dA 15 [8,7,6,4,0,1] (fun B R L m e v=>∃j sz,e=(8,ai j)::(7,ai sz)::B∧av w L v (R)∧(0≤j∧j≤(l.getD i cQ).lo)∧(sz=2+j*aU a5)∧m=((l.getD i cQ).lo-j).toNat) (i:=⟨0,2,rfl,bW,oz,(by simp),rfl⟩) (h:=?_)
 rintro m1 Γ1 gS ⟨j,sz,rfl,bP,hj,hs,rfl⟩
 have hjb:=rh (a:=j) (b:=aU a5) oz oz
 refine ab 6 (h:=jb i (rl.at bP) (k:=ab 0 (h:=j4 (rl.at bP) (k:=ab 0 (h:=nu (rl.at bP) (k:=aC 3 (fun c93=>?_) fun c93=>?_))))))
 exact ab 7 (h:=aV (k:=ab 6 (h:=aV (k:=nyZ 2 [8,7,6,4,0,1] (h:=by exact ⟨j+1,sz+(aU _),rfl,bP,oz,(by rw [Int.add_mul,Int.one_mul];omega),rfl⟩)))))
 refine o9 2 [6,4,0,1] 0 bP (fun B R L e v=>∃Wn,e=(7,ai Wn)::B∧av w L v (R)∧(Wn=2+(l.getD i cQ).lo*aU a5+(if (l.getD i cQ).hi= -1 then aU a5+1 else 0))) ?_ ?_
 refine ab 4 (h:=jb i (rl.at bP) (k:=ab 0 (h:=j4 (rl.at bP) (k:=ab 0 (h:=nu (rl.at bP) (k:=aC 3 (fun sV=>?_) fun sV=>?_))))))
 exact ab 3 (h:=aV (k:=ab 0 (h:=aV (k:=dyZ 2 [7,6,4,0,1] (h:=by exact ⟨(sz+(aU _))+1,rfl,bP,(by first|(rw [if_pos sV,hs,show j=(l.getD i cQ).lo by omega];omega)|(rw [if_neg sV,hs,show j=(l.getD i cQ).lo by omega];omega))⟩)))))
 exact cA 1 (h:=by exact ⟨sz,rfl,bP,(by first|(rw [if_pos sV,hs,show j=(l.getD i cQ).lo by omega];omega)|(rw [if_neg sV,hs,show j=(l.getD i cQ).lo by omega];omega))⟩)
 rintro Γ2 jz ⟨Wn,rfl,ck,VC⟩
 refine ab 5 (h:=jb i (rl.at ck) (k:=ab 0 (h:=j4 (rl.at ck) (k:=ab 0 (h:=nu (rl.at ck) (k:=dA 4 [9,7,6,4,0,1] (fun B R L m e v=>∃j2 sz,e=(9,ai j2)::(7,ai sz)::B∧av w L v (R)∧((l.getD i cQ).lo≤j2∧(j2≤(l.getD i cQ).hi∨j2=(l.getD i cQ).lo))∧(sz=2+(l.getD i cQ).lo*aU a5+(if (l.getD i cQ).hi= -1 then aU a5+1 else 0)+(j2-(l.getD i cQ).lo)*(aU a5+1))∧m=((l.getD i cQ).hi-j2).toNat) (i:=⟨(l.getD i cQ).lo,Wn,rfl,ck,oz,(by rw [Int.sub_self,Int.zero_mul,Int.add_zero];assumption),rfl⟩) (h:=?_)))))))
 rintro m2 Γ3 kK ⟨j2,aa7,rfl,cU,yT,hs3,rfl⟩
 have hjb:=rh (a:=j2-(l.getD i cQ).lo) (b:=aU a5+1) oz oz
 have hif:0≤(if (l.getD i cQ).hi= -1 then aU a5+1 else 0)∧(if (l.getD i cQ).hi= -1 then aU a5+1 else 0)≤1048577:=by split<;>omega
 refine ab 6 (h:=jb i (rl.at cU) (k:=ab 0 (h:=j4 (rl.at cU) (k:=ab 0 (h:=nu (rl.at cU) (k:=aC 3 (fun c99=>?_) fun c99=>?_))))))
 exact ab 7 (h:=aV (k:=ab 0 (h:=aV (k:=ab 6 (h:=aV (k:=nyZ 2 [9,7,6,4,0,1] (h:=by exact ⟨j2+1,(aa7+(aU _))+1,rfl,cU,oz,(by rw [show j2+1-(l.getD i cQ).lo=(j2-(l.getD i cQ).lo)+1 by omega,Int.add_mul,Int.one_mul];omega),rfl⟩)))))))
 refine ab 5 (h:=aA (c:=sU _ kK) (k:=?_))
 rintro _ nH ⟨rfl,u9⟩
 have cN:=cU.call u9
 exact bE 4 (h:=⟨(by rw [fJ,IM (n:=n5) (j:=j2) (by rw [bm];exact D3) (by rw [bm];exact yT) (by rw [bm];exact c99) (by rw [bm];exact hs3)]),cN.af⟩)
 refine bE 9 (h:=?_)
 obtain ⟨n5,fJ,_⟩:=eD hT oz
 exact ⟨(by rw [fJ];rfl),H1.af⟩
theorem xy (N:Nat):∀(la:aP) (l:List Nd) (lc:Nat) (iI:Int) (i:Nat) (T:Tr) (w:World) (rl:cP aJ w la l lc) (kE:iI=((i:Nat):Int)) (hl:l.length≤100000) (hT:Sub l i T) (bB:fM T) (cF:i<N),Calls Tryz.prog 33 #[aH la l lc,ai iI] w (aX fun v w'=>v=ai (aU T)∧ax w [] w' []):=by
 induction N with
 | zero=>intro la l lc iI i T w rl kE hl hT bB cF;omega
 | succ N ih=>intro la l lc iI i T w rl kE hl hT bB cF;exact vk la l lc iI i T N w rl kE hl hT bB cF ih
theorem I0 (la:aP) (l:List Nd) (lc:Nat) (iI:Int) (i:Nat) (T:Tr) (w:World) (rl:cP aJ w la l lc) (kE:iI=((i:Nat):Int)) (hl:l.length≤100000) (hT:Sub l i T) (bB:fM T):
 Calls Tryz.prog 33 #[aH la l lc,ai iI] w (aX fun v w'=>v=ai (aU T)∧ax w [] w' []):=xy (i+1) la l lc iI i T w rl kE hl hT bB oz
theorem JY (la:aP) (l:List Nd) (lc:Nat) (w:World) (rl:cP aJ w la l lc):
 Calls Tryz.prog 109 #[aH la l lc] w (aX fun v w'=>∃z0,v=ai z0∧ax w [] w' []∧(QZ l z0)∧(z0= -1∨l.length≤512)):=by
 have eI:=rl.le
 refine cH Tryz.func109 (h:=fun H0=>ab 9 (h:=aA (c:=p5 la l lc w (rl.at H0)) (k:=?_)))
 rintro _ w1 ⟨rfl,u1⟩
 have H1:=H0.call u1
 refine dv 3 (fun Dy=>?_) fun Dy=>?_
 exact bE 6 (h:=⟨-1,rfl,H1.af,(.inl ⟨by simpa using Dy,rfl⟩),(.inl rfl)⟩)
 have H2:=H1.nr (aw .i64) 3
 refine dA 16 [15,3,14,13,2] (fun B R L m e v=>∃k,∃st:List Int,∃ta tc,e=(15,b7 k)::(3,aH ta st tc)::B∧av w L v ([cE (aw .i64) 3 ta st tc]::R)∧(k≤l.length)∧(um l k st)∧(st.length≤k)∧m=l.length-k) (i:=⟨0,([]:List Int),none,0,rfl,H2,om,(by exact um.start l),(by simp),rfl⟩) (h:=?_)
 rintro m1 Γ1 w2 ⟨k,st,ta,tc,rfl,H3,hk,hF,Xx,rfl⟩
 refine aC 6 (fun UX=>?_) fun UX=>?_
 refine ab 6 (h:=jb k (rl.at H3) (k:=ab 0 (h:=Fl (rl.at H3) (k:=ab 0 (h:=dB H3 (k:=fun w3 H4=>aY 0 (h:=bL H4 1 (k:=fun w4 H5=>?_))))))))
 have Yi:s6 l:=kh.1 (by simpa using Dy)
 obtain ⟨T,q,hT,PO,XB,RI,uE,hF2,cB,hqk⟩:=hF.step Yi oz
 have aja:=Yi.1
 have har:=oD (l.getD k cQ).kind
 have X8:(st.drop q).length=st.length-q:=by simp
 have JH:∀m,m<(st.drop q).length→2≤(st.drop q).getD m 0∧(st.drop q).getD m 0≤1048576:=by rw [uE];exact Mu hT.1 PO
 refine ab 7 (h:=aM (H5.b 1) (k:=ab 0 (h:=aA (c:=rQ _ w4) (k:=?_))))
 rintro _ w5 ⟨rfl,u4⟩
 have H6:=H5.call u4
 refine ab 0 (h:=kB (k:=?_))
 refine aN 13 rfl (Ss q (T:=(aw .i64)) (xs:=st) rfl Tryz.underlying25 xv rfl rfl rfl oz oz (vu (H6.ow 0)) fun sa1 sc1 rs1=>dA 5 [29,7,28,27,6,5,15,3,14,13,2] (fun B R L m e v=>∃mq sz,e=(29,b7 mq)::(7,ai sz)::B∧av w L v (R)∧(mq≤(st.drop q).length)∧(sz=2+Ek ((st.drop q).take mq))∧(2≤sz∧sz≤2+1048576*mq)∧m=(st.drop q).length-mq) (i:=⟨0,2,rfl,H6,oz,rfl,(by simp),rfl⟩) (h:=?_))
 rintro m2 Γ2 w6 ⟨mq,sz,rfl,H7,hm,Bc,hsb,rfl⟩
 have hxm:=JH mq
 refine aC 6 (fun Ge=>?_) fun Ge=>?_
 exact ab 6 (h:=cg mq (rs1 _ (H7.rt 0)) (cD:=oz) (k:=ab 0 (h:=cI (rs1 _ (H7.rt 0)) (k:=ab 6 (h:=aV (h1:=(by have h9:=hxm oz;omega)) (h2:=(by have h9:=hxm oz;omega)) (k:=ab 5 (h:=aV (k:=cm 2 (h:=by exact ⟨mq+1,sz+((st.drop q).getD mq 0),rfl,H7,oz,(by rw [p7 (st.drop q) oz,IJ,Bc];omega),(by have h9:=JH mq oz;omega),rfl⟩)))))))))
 refine o9 2 [6,15,3,14,13,2] 0 H7 (fun B R L e v=>∃z,e=(7,ai z)::B∧av w L v (R)∧(aU T=min z 1048576)∧(-100000000≤z∧z≤100000000)) ?_ ?_
 have KC:sz=2+Le T:=by rw [Bc,List.take_of_length_le oz,uE];rfl
 refine ab 4 (h:=aM (H7.b 1) (k:=aC 4 (fun mY=>?_) fun mY=>?_))
 exact ab 2 (h:=kB (k:=cA 3 (h:=by exact ⟨sz-2,rfl,H7,(by first|(exfalso;omega)|(rw [KC];exact (lJ hT.1 (by rw [cB];exact mY)).symm)|(rw [←cV hT.1 (by rw [cB];exact ly),←uE,cy,cB];unfold dT;rw [if_pos sX])|(rw [←cV hT.1 (by rw [cB];exact ly),←uE,cy,cB];unfold dT;rw [if_neg sX])|(rw [←cV hT.1 (by rw [cB];exact jx),←uE,cy,cB];unfold dT;rw [if_neg oz])|(rw [KC];exact (jU hT.1 (by rw [cB];exact mY) (by rw [cB];first|exact ly|exact jx)).symm)),oz⟩)))
 refine ab 3 (h:=aM (H7.b 1) (k:=b9 2 47 (fun ly=>?_) fun ly=>?_))
 refine ab 1 (h:=aM (H7.b 1) (k:=aC 5 (fun sX=>?_) fun sX=>?_))
 have ha1:bR (l.getD k cQ).kind=1:=by rw [ly];rfl
 have PG:=JH 0 oz
 rw [cy] at PG
 have D3:=cW.rep (n:=(l.getD k cQ)) (by rw [←cB];exact PO.root) ly
 have hmb:=rh (a:=(l.getD k cQ).lo+1) (b:=st.getD q 0) oz oz
 exact fI 0 H7 (h:=fun w7 H8=>c7 1 1 (H8.b 1) (D:=fun _ hC=>aM hC) (h:=gk 0 2 (D:=fun _=>aV) (h:=cp 2 5 (H8.rt 0) (D:=fun _ hC=>cg q hC (cD:=oz)) (h:=cp 0 6 (H8.rt 0) (D:=fun _ hC=>cI hC) (h:=gk 0 7 (D:=fun _=>Ha) (h:=gk 0 8 (D:=fun _=>aV) (h:=cA 3 (h:=by exact ⟨3+((((l.getD k cQ).lo)+1)*(st.getD q 0)),rfl,H8,(by first|(exfalso;omega)|(rw [KC];exact (lJ hT.1 (by rw [cB];exact mY)).symm)|(rw [←cV hT.1 (by rw [cB];exact ly),←uE,cy,cB];unfold dT;rw [if_pos sX])|(rw [←cV hT.1 (by rw [cB];exact ly),←uE,cy,cB];unfold dT;rw [if_neg sX])|(rw [←cV hT.1 (by rw [cB];exact jx),←uE,cy,cB];unfold dT;rw [if_neg oz])|(rw [KC];exact (jU hT.1 (by rw [cB];exact mY) (by rw [cB];first|exact ly|exact jx)).symm)),oz⟩))))))))
 refine ab 3 (h:=aM (H7.b 1) (k:=aC 4 (fun jx=>?_) fun jx=>?_))
 have ha1:bR (l.getD k cQ).kind=1:=by rw [jx];rfl
 have PG:=JH 0 oz
 rw [cy] at PG
 have D3:=cW.rep (n:=(l.getD k cQ)) (by rw [←cB];exact PO.root) jx
 have hmb:=rh (a:=(l.getD k cQ).hi) (b:=st.getD q 0) oz oz
 exact fI 0 H7 (h:=fun w8 H9=>c7 1 1 (H9.b 1) (D:=fun _ hC=>aM hC) (h:=cp 2 4 (H9.rt 0) (D:=fun _ hC=>cg q hC (cD:=oz)) (h:=cp 0 5 (H9.rt 0) (D:=fun _ hC=>cI hC) (h:=gk 0 6 (D:=fun _=>Ha) (h:=gk 0 7 (D:=fun _=>aV) (h:=c7 1 9 (H9.b 1) (D:=fun _ hC=>aM hC) (h:=gk 0 10 (D:=fun _=>aV) (h:=c7 1 12 (H9.b 1) (D:=fun _ hC=>aM hC) (h:=gk 0 13 (D:=fun _=>kB) (h:=cA 3 (h:=by exact ⟨((2+(((l.getD k cQ).hi)*(st.getD q 0)))+((l.getD k cQ).hi))-((l.getD k cQ).lo),rfl,H9,(by first|(exfalso;omega)|(rw [KC];exact (lJ hT.1 (by rw [cB];exact mY)).symm)|(rw [←cV hT.1 (by rw [cB];exact ly),←uE,cy,cB];unfold dT;rw [if_pos sX])|(rw [←cV hT.1 (by rw [cB];exact ly),←uE,cy,cB];unfold dT;rw [if_neg sX])|(rw [←cV hT.1 (by rw [cB];exact jx),←uE,cy,cB];unfold dT;rw [if_neg oz])|(rw [KC];exact (jU hT.1 (by rw [cB];exact mY) (by rw [cB];first|exact ly|exact jx)).symm)),oz⟩)))))))))))
 exact cA 2 (h:=by exact ⟨sz,rfl,H7,(by first|(exfalso;omega)|(rw [KC];exact (lJ hT.1 (by rw [cB];exact mY)).symm)|(rw [←cV hT.1 (by rw [cB];exact ly),←uE,cy,cB];unfold dT;rw [if_pos sX])|(rw [←cV hT.1 (by rw [cB];exact ly),←uE,cy,cB];unfold dT;rw [if_neg sX])|(rw [←cV hT.1 (by rw [cB];exact jx),←uE,cy,cB];unfold dT;rw [if_neg oz])|(rw [KC];exact (jU hT.1 (by rw [cB];exact mY) (by rw [cB];first|exact ly|exact jx)).symm)),oz⟩)
 refine ab 11 (h:=aM (H7.b 1) (k:=aC 4 (fun jx=>?_) fun jx=>?_))
 have ha1:bR (l.getD k cQ).kind=1:=by rw [jx];rfl
 have PG:=JH 0 oz
 rw [cy] at PG
 have D3:=cW.rep (n:=(l.getD k cQ)) (by rw [←cB];exact PO.root) jx
 have hmb:=rh (a:=(l.getD k cQ).hi) (b:=st.getD q 0) oz oz
 exact fI 0 H7 (h:=fun w9 bW=>c7 1 1 (bW.b 1) (D:=fun _ hC=>aM hC) (h:=cp 2 4 (bW.rt 0) (D:=fun _ hC=>cg q hC (cD:=oz)) (h:=cp 0 5 (bW.rt 0) (D:=fun _ hC=>cI hC) (h:=gk 0 6 (D:=fun _=>Ha) (h:=gk 0 7 (D:=fun _=>aV) (h:=c7 1 9 (bW.b 1) (D:=fun _ hC=>aM hC) (h:=gk 0 10 (D:=fun _=>aV) (h:=c7 1 12 (bW.b 1) (D:=fun _ hC=>aM hC) (h:=gk 0 13 (D:=fun _=>kB) (h:=cA 3 (h:=by exact ⟨((2+(((l.getD k cQ).hi)*(st.getD q 0)))+((l.getD k cQ).hi))-((l.getD k cQ).lo),rfl,bW,(by first|(exfalso;omega)|(rw [KC];exact (lJ hT.1 (by rw [cB];exact mY)).symm)|(rw [←cV hT.1 (by rw [cB];exact ly),←uE,cy,cB];unfold dT;rw [if_pos sX])|(rw [←cV hT.1 (by rw [cB];exact ly),←uE,cy,cB];unfold dT;rw [if_neg sX])|(rw [←cV hT.1 (by rw [cB];exact jx),←uE,cy,cB];unfold dT;rw [if_neg oz])|(rw [KC];exact (jU hT.1 (by rw [cB];exact mY) (by rw [cB];first|exact ly|exact jx)).symm)),oz⟩)))))))))))
 exact cA 2 (h:=by exact ⟨sz,rfl,H7,(by first|(exfalso;omega)|(rw [KC];exact (lJ hT.1 (by rw [cB];exact mY)).symm)|(rw [←cV hT.1 (by rw [cB];exact ly),←uE,cy,cB];unfold dT;rw [if_pos sX])|(rw [←cV hT.1 (by rw [cB];exact ly),←uE,cy,cB];unfold dT;rw [if_neg sX])|(rw [←cV hT.1 (by rw [cB];exact jx),←uE,cy,cB];unfold dT;rw [if_neg oz])|(rw [KC];exact (jU hT.1 (by rw [cB];exact mY) (by rw [cB];first|exact ly|exact jx)).symm)),oz⟩)
 rintro Γ3 iy ⟨z,rfl,bP,hz,hzb⟩
 refine aN 3 rfl (BC (((st.length:Nat):Int)-(bR ((l.getD k cQ).kind))) q (T:=(aw .i64)) (e:=3) (xs:=st) rfl Tryz.underlying25 xv rfl rfl (bP.ow 0) oz oz fun gS u5=>?_)
 have ck:=bP.un 0 u5
 refine aN 1 rfl (HQ rfl rfl (ab 0 (h:=dL (aw .i64) [min z 1048576] ck (k:=fun jz cU=>ab 0 (h:=kJ cU 0 (cU.rt 2) (k:=fun a1 c1 kK ae1=>?_))))))
 have cN:=(ae1.drop 2).no
 exact ab 5 (h:=aV (k:=cm 2 (h:=by exact ⟨k+1,(st.take q)++[min z 1048576],a1,c1,rfl,(cN.pm [0] rfl rfl),om,(by rw [hz] at hF2;exact hF2),im,rfl⟩)))
 have Yi:s6 l:=kh.1 (by simpa using Dy)
 obtain ⟨D1,VC⟩:=hF.Ud Yi oz
 exact ab 5 (h:=cg 0 (H3.rt 0) (k:=ab 0 (h:=cI (H3.rt 0) (k:=bE 4 (h:=⟨st.getD 0 0,rfl,H3.af,VC,(.inr Yi.1)⟩)))))
theorem uV (g:Nat) (la:aP) (l:List Nd) (lc:Nat) (oa:aP) (o:List Nd) (oc:Nat) (iI:Int) (i:Nat) (T:Tr) (N:Nat) (w:World) (hp:Hp w [aQ g #[aH la l lc,aH oa o oc] 149,cE aJ 89 oa o oc]) (rl:cP aJ w la l lc) (kE:iI=((i:Nat):Int)) (hT:Sub l i T) (hl:l.length≤512) (ho:o.length+T.flat.length≤1024) (dq:eG (aH la l lc) [aQ g #[aH la l lc,aH oa o oc] 149,cE aJ 89 oa o oc]) (hN:i<N+1) (ih:∀(g:Nat) (la:aP) (l:List Nd) (lc:Nat) (oa:aP) (o:List Nd) (oc:Nat) (iI:Int) (i:Nat) (T:Tr) (w:World) (hp:Hp w [aQ g #[aH la l lc,aH oa o oc] 149,cE aJ 89 oa o oc]) (rl:cP aJ w la l lc) (kE:iI=((i:Nat):Int)) (hT:Sub l i T) (hl:l.length≤512) (ho:o.length+T.flat.length≤1024) (dq:eG (aH la l lc) [aQ g #[aH la l lc,aH oa o oc] 149,cE aJ 89 oa o oc]) (cF:i<N),Calls Tryz.prog 82 #[.pointer (some ⟨g,0,none⟩),ai iI] w (aX fun v w'=>∃fO,∃fN:Nat,v= .tuple #[]∧ax w [aQ g #[aH la l lc,aH oa o oc] 149,cE aJ 89 oa o oc] w' [aQ g #[aH la l lc,aH fO (o++(bN T).flat) fN] 149,cE aJ 89 fO (o++(bN T).flat) fN])):
 Calls Tryz.prog 82 #[.pointer (some ⟨g,0,none⟩),ai iI] w (aX fun v w'=>∃fO,∃fN:Nat,v= .tuple #[]∧ax w [aQ g #[aH la l lc,aH oa o oc] 149,cE aJ 89 oa o oc] w' [aQ g #[aH la l lc,aH fO (o++(bN T).flat) fN] 149,cE aJ 89 fO (o++(bN T).flat) fN]):=by
 subst kE
 have hi:=hT.2.1
 have hTl:=hT.le
 have cB:=hT.root.1
 have eI:=rl.le
 refine tW hp Tryz.func82 (h:=fun H0=>ab 5 (h:=aM (H0.b 0) (k:=ab 1 (h:=aA (c:=yf la l lc _ i T w (rl.keep H0.keep dq) oz hT) (k:=?_)))))
 rintro _ w1 ⟨bH,b6,rfl,u1⟩
 have H1:=H0.ns u1
 refine ab 8 (h:=aM (H1.b 0) (k:=ab 1 (h:=jb i (rl.keep H1.keep dq) (k:=ab 0 (h:=Fl (rl.keep H1.keep dq) (k:=ab 0 (h:=dB H1 (k:=fun w2 H2=>aY 0 (h:=bL H2 3 (k:=fun w3 H3=>?_))))))))))
 have H4:=H3.ps [2,3,0,1]
 refine o9 2 [5,4,0] 2 H4 (fun B R L e v=>∃kk:List Int,∃nk,e=B∧av w L v ([ag (aw .i64) (aH bH (bQ T i) b6) 3 kk]::[aQ w1.heap.size #[ai nk,aj ((l.getD i cQ).set).w0,aj ((l.getD i cQ).set).w1,aj ((l.getD i cQ).set).w2,aj ((l.getD i cQ).set).w3,ai ((l.getD i cQ).lo),ai ((l.getD i cQ).hi)] 89]::R)∧(kk=kq T i)∧(nk=(fu (l.getD i cQ)).kind)) ?_ ?_
 refine ab 3 (h:=aM (H4.b 1) (k:=aC 9 (fun AQ=>?_) fun AQ=>?_))
 refine ab 2 (h:=aA (c:=ti bH (bQ T i) _ ((bQ T i).length) w3 (H4.dr 0) rfl (by rw [o5];have:=Hj T;omega)) (k:=?_))
 rintro _ w4 ⟨rfl,u4⟩
 have H5:=H4.un 0 u4
 exact cA 2 (h:=by exact ⟨(bQ T i).reverse,(l.getD i cQ).kind,rfl,H5,(by first|exact (if_pos (by rw [←cB];exact AQ)).symm|exact (if_neg (by rw [←cB];exact AQ)).symm),(by unfold fu;first|(rw [if_pos sW];done)|(rw [if_neg sW,if_pos Dw];done)|(rw [if_neg sW,if_neg Dw];done)|(rw [if_neg oz,if_neg oz];done))⟩)
 refine aC 6 (fun sW=>?_) fun sW=>?_
 exact aY 2 (h:=jV H4 1 (k:=fun w5 H6=>cA 2 (h:=by exact ⟨bQ T i,4,rfl,H6,(by first|exact (if_pos (by rw [←cB];exact AQ)).symm|exact (if_neg (by rw [←cB];exact AQ)).symm),(by unfold fu;first|(rw [if_pos sW];done)|(rw [if_neg sW,if_pos Dw];done)|(rw [if_neg sW,if_neg Dw];done)|(rw [if_neg oz,if_neg oz];done))⟩)))
 refine aC 6 (fun Dw=>?_) fun Dw=>?_
 exact aY 2 (h:=jV H4 1 (k:=fun w6 H7=>cA 2 (h:=by exact ⟨bQ T i,3,rfl,H7,(by first|exact (if_pos (by rw [←cB];exact AQ)).symm|exact (if_neg (by rw [←cB];exact AQ)).symm),(by unfold fu;first|(rw [if_pos sW];done)|(rw [if_neg sW,if_pos Dw];done)|(rw [if_neg sW,if_neg Dw];done)|(rw [if_neg oz,if_neg oz];done))⟩)))
 exact cA 2 (h:=by exact ⟨bQ T i,(l.getD i cQ).kind,rfl,H4,(by first|exact (if_pos (by rw [←cB];exact AQ)).symm|exact (if_neg (by rw [←cB];exact AQ)).symm),(by unfold fu;first|(rw [if_pos sW];done)|(rw [if_neg sW,if_pos Dw];done)|(rw [if_neg sW,if_neg Dw];done)|(rw [if_neg oz,if_neg oz];done))⟩)
 rintro Γ1 w7 ⟨kk,nk,rfl,H8,JM,RJ⟩
 have H9:=H8.ps [2,3,0,1]
 refine dA 9 [35,34,33,5,0] (fun B R L m e v=>∃k,∃qo:List Nd,∃qa qc,e=(35,b7 k)::B∧av w L v ([aQ g #[aH la l lc,aH qa qo qc] 149]::[cE aJ 89 qa qo qc]::R)∧(k≤kk.length)∧(qo=o++bp ((bN T).kids.take k))∧m=kk.length-k) (i:=⟨0,o,oa,oc,rfl,H9,om,Bu,rfl⟩) (h:=?_)
 rintro m1 Γ2 w8 ⟨k,qo,qa,qc,rfl,bW,hk,hq,rfl⟩
 have aid:kk.length=(bQ T i).length:=by rw [JM];exact Fm T i
 have tD:=Hj T
 have aic:=o5 T i
 refine aC 6 (fun qD=>?_) fun qD=>?_
 refine ab 6 (h:=cg k (bW.rt 2) (k:=ab 0 (h:=cI (bW.rt 2) (k:=?_))))
 obtain ⟨PG,hxi,S,hS,VQ⟩:=Mv hT (m:=k) (by rw [←JM];omega)
 rw [←JM] at PG hxi hS
 have Aq:=yL T i
 have RI:=II hT.1 (k:=k) (S:=S) VQ
 have hqn:qo.length=o.length+(bp ((bN T).kids.take k)).length:=by rw [hq,List.length_append]
 have bP:av _ _ _ [[_,_],[_],[_]]:=av.of (ax.iW bW (l:=[0,1,2,3]) rfl rfl) rfl
 refine ab 6 (h:=aA (c:=ih _ la l lc qa qo qc _ ((kk.getD k 0).toNat) S w8 (bP.dr 0) (rl.keep bP.keep dq) oz hS oz oz (eG.of dq rl oz bP 0 rfl) oz) (k:=?_))
 rintro _ w9 ⟨eV,eU,rfl,u7⟩
 have ck:=bP.un 0 u7
 exact ab 4 (h:=aV (k:=cm 2 (h:=by exact ⟨k+1,qo++(bN S).flat,eV,eU,rfl,(ck.re rfl),om,(by rw [hq,VQ,bJ,cb,List.append_assoc]),rfl⟩)))
 have hqn:qo.length+1≤o.length+T.flat.length:=by have h8:=pV (bN T).kids k;have h9:=Gy hT.1;rw [hq,List.length_append];omega
 have XB:qo++[(⟨nk,(l.getD i cQ).set,(l.getD i cQ).lo,(l.getD i cQ).hi⟩:Nd)]=o++(bN T).flat:=by rw [hq,List.take_of_length_le (by rw [←yL T i,←JM];omega),ID hT.1,KV RJ,cB,List.append_assoc]
 refine fI 2 bW (h:=fun iy cU=>c7 4 4 (cU.b 0) (D:=fun _ hC=>aM hC) (h:=c7 0 5 (cU.b 3) (D:=fun _ hC=>cd hC) (h:=dj 0 6 (D:=dL aJ ([(⟨nk,(l.getD i cQ).set,(l.getD i cQ).lo,(l.getD i cQ).hi⟩:Nd)]:List Nd) cU (k:=fun gS cN=>?_)))))
 refine ⟨⟨(cN.b 0),trivial,trivial,trivial,trivial,trivial⟩,?_⟩
 refine dj 0 7 (D:=kJ cN 1 (cN.rt 4) (k:=fun a1 c1 jz ae0=>?_))
 have dt:=(ae0.drop 4).no
 refine ⟨⟨trivial,trivial⟩,?_⟩
 refine dj 2 10 (D:=jV dt 0 (k:=fun kK dw=>?_))
 refine ⟨trivial,?_⟩
 refine DY 1 (h:=?_)
 rw [XB] at dw
 exact ⟨a1,c1,rfl,(dw.se [0,1])⟩
theorem xu (N:Nat):∀(g:Nat) (la:aP) (l:List Nd) (lc:Nat) (oa:aP) (o:List Nd) (oc:Nat) (iI:Int) (i:Nat) (T:Tr) (w:World) (hp:Hp w [aQ g #[aH la l lc,aH oa o oc] 149,cE aJ 89 oa o oc]) (rl:cP aJ w la l lc) (kE:iI=((i:Nat):Int)) (hT:Sub l i T) (hl:l.length≤512) (ho:o.length+T.flat.length≤1024) (dq:eG (aH la l lc) [aQ g #[aH la l lc,aH oa o oc] 149,cE aJ 89 oa o oc]) (cF:i<N),Calls Tryz.prog 82 #[.pointer (some ⟨g,0,none⟩),ai iI] w (aX fun v w'=>∃fO,∃fN:Nat,v= .tuple #[]∧ax w [aQ g #[aH la l lc,aH oa o oc] 149,cE aJ 89 oa o oc] w' [aQ g #[aH la l lc,aH fO (o++(bN T).flat) fN] 149,cE aJ 89 fO (o++(bN T).flat) fN]):=by
 induction N with
 | zero=>intro g la l lc oa o oc iI i T w hp rl kE hT hl ho dq cF;omega
 | succ N ih=>intro g la l lc oa o oc iI i T w hp rl kE hT hl ho dq cF;exact uV g la l lc oa o oc iI i T N w hp rl kE hT hl ho dq cF ih
theorem IB (g:Nat) (la:aP) (l:List Nd) (lc:Nat) (oa:aP) (o:List Nd) (oc:Nat) (iI:Int) (i:Nat) (T:Tr) (w:World) (hp:Hp w [aQ g #[aH la l lc,aH oa o oc] 149,cE aJ 89 oa o oc]) (rl:cP aJ w la l lc) (kE:iI=((i:Nat):Int)) (hT:Sub l i T) (hl:l.length≤512) (ho:o.length+T.flat.length≤1024) (dq:eG (aH la l lc) [aQ g #[aH la l lc,aH oa o oc] 149,cE aJ 89 oa o oc]):
 Calls Tryz.prog 82 #[.pointer (some ⟨g,0,none⟩),ai iI] w (aX fun v w'=>∃fO,∃fN:Nat,v= .tuple #[]∧ax w [aQ g #[aH la l lc,aH oa o oc] 149,cE aJ 89 oa o oc] w' [aQ g #[aH la l lc,aH fO (o++(bN T).flat) fN] 149,cE aJ 89 fO (o++(bN T).flat) fN]):=xu (i+1) g la l lc oa o oc iI i T w hp rl kE hT hl ho dq oz
theorem Ef (la:aP) (l:List Nd) (lc:Nat) (w:World) (rl:cP aJ w la l lc):
 Calls Tryz.prog 57 #[aH la l lc] w (aX fun v w'=>∃a2 c2,∃o:List Nd,∃er,v= .tuple #[aH a2 o c2,ai er]∧ax w [] w' [cE aJ 89 a2 o c2]∧(ZG l o er)):=by
 have eI:=rl.le
 refine cH Tryz.func57 (h:=fun H0=>ab 10 (h:=aA (c:=p5 la l lc w (rl.at H0)) (k:=?_)))
 rintro _ w1 ⟨rfl,u1⟩
 have H1:=H0.call u1
 refine dv 3 (fun AP=>?_) fun AP=>?_
 exact gh 7 (h:=⟨none,0,[],3,rfl,eC H1,(.inl ⟨by simpa using AP,rfl,rfl⟩)⟩)
 refine ab 5 (h:=cu (k:=ab 0 (h:=jf H1 (k:=fun w2 H2=>?_))))
 obtain ⟨hl5,D2,T,CN,v8⟩:=kh.1 (show dO l=true by simpa using AP)
 have hp5:=dV T
 have Yh:T.flat.length=l.length:=by rw [v8]
 have TQ:Sub l (l.length-1) T:=by have h9:=Sub.self CN;rw [v8] at h9;exact h9
 refine ab 8 (h:=kB (k:=?_))
 have H3:=H2.nr aJ 89
 have H4:av _ _ _ [[_,_]]:=av.of (ax.iW H3 (l:=[0,1]) rfl rfl) rfl
 refine ab 0 (h:=aA (c:=IB _ la l lc none ([]:List Nd) 0 _ (l.length-1) T w2 (H4.dr 0) (rl.at H4) oz TQ oz im (eG.of (eG.nil _) rl oz H4 0 rfl)) (k:=?_))
 rintro _ w3 ⟨eV,eU,rfl,u3⟩
 have H5:=H4.un 0 u3
 refine ab 7 (h:=aM ((H5.dr 0).aQ (List.mem_of_getElem? (i:=0) rfl)) (k:=gh 5 (h:=?_)))
 have H6:=H5.sn
 exact ⟨eV,eU,([]:List Nd)++(bN T).flat,0,rfl,H6.kM 1,(.inr ⟨T,CN,v8,fun n hn=>D2 n (by rw [←v8];exact hn),by simp,rfl⟩)⟩
theorem E8 (la:aP) (l:List Nd) (lc:Nat) (w:World) (rl:cP aJ w la l lc):
 Calls Tryz.prog 83 #[aH la l lc] w (aX fun v w'=>∃a2 c2,∃n2:Nat,∃st:List aR,∃s0 f0 er,v= .tuple #[.agg #[.slice a2 n2 c2,ai s0,ai f0],ai er]∧ax w [] w' [ag br (.slice a2 n2 c2) 193 st]∧(qC l st s0 f0 er)):=by
 have eI:=rl.le
 refine cH Tryz.func83 (h:=fun H0=>ab 2 (h:=dB H0 (k:=fun w1 H1=>ab 7 (h:=aA (c:=JY la l lc w1 (rl.at H1)) (k:=?_)))))
 rintro _ w2 ⟨agE,rfl,u2,Tg,Xu⟩
 have H2:=H1.call u2
 refine aC 11 (fun lA=>?_) fun lA=>?_
 exact ab 2 (h:=cu (k:=aY 0 (h:=bL H2 0 (k:=fun w3 H3=>gG 4 (h1:=cS (H3.b 0)) (h2:=dc) (h:=⟨none,0,0,[],0,0,3,rfl,eC H3,(N8 Tg oz)⟩)))))
 refine aC 7 (fun mZ=>?_) fun mZ=>?_
 exact ab 2 (h:=cu (k:=aY 0 (h:=bL H2 0 (k:=fun w4 H4=>gG 4 (h1:=cS (H4.b 0)) (h2:=dc) (h:=⟨none,0,0,[],0,0,4,rfl,eC H4,(N7 Tg oz)⟩)))))
 obtain ⟨T,CN,v8,D2,hz5⟩:=Tg.resolve_left (fun h9=>by omega)
 have hp5:=dV T
 have Yh:T.flat.length=l.length:=by rw [v8]
 have TQ:Sub l (l.length-1) T:=by have h9:=Sub.self CN;rw [v8] at h9;exact h9
 have hsu:=size_eq T CN D2 oz
 have VK:=gb T []
 simp only [List.length_nil] at VK
 have hl5:l.length≤512:=Xu.resolve_left oz
 refine ab 6 (h:=cu (k:=ab 0 (h:=jf H2 (k:=fun w5 H5=>ab 8 (h:=kB (k:=?_))))))
 have H6:=H5.nr br 193
 have H7:av _ _ _ [[_,_],[_]]:=av.of (ax.iW H6 (l:=[1,2,0]) rfl rfl) rfl
 refine ab 0 (h:=aA (c:=Jo _ la l lc none ([]:List aR) 0 (([]:List aR).length) _ (l.length-1) T w5 (H7.dr 0) (rl.at H7) oz TQ D2 im oz (eG.of (eG.nil _) rl oz H7 0 rfl)) (k:=?_))
 rintro _ w6 ⟨eV,eU,gr,rfl,u6⟩
 have H8:=H7.un 0 u6
 refine ab 12 (h:=aM ((H8.dr 0).aQ (List.mem_of_getElem? (i:=0) rfl)) (k:=ab 1 (h:=cu (us:=[ai 6,ai 0,ai 0,aj Bs.zero.w0,aj Bs.zero.w1,aj Bs.zero.w2,aj Bs.zero.w3]) (k:=ab 0 (h:=jb ((aW T ([]:List aR)).last) (LC (H8.dr 0) 1) (k:=?_))))))
 have H9:=H8.sn
 exact aY 0 (h:=sNZ (⟨6,0,0,Bs.zero⟩:aR) H9 1 (k:=fun w7 bW=>cv 2 [7,6,5,3,2] (h:=ab 5 (h:=aM (bW.b 0) (k:=ab 2 (h:=cu (k:=aY 0 (h:=bL bW 2 (k:=fun w8 bP=>gG 4 (h1:=cS (bP.b 2)) (h2:=dc) (h:=⟨eV,eU,gr,((aW T ([]:List aR)).s).set ((aW T ([]:List aR)).last) (⟨6,0,0,Bs.zero⟩:aR),(((aW T ([]:List aR)).first:Nat):Int),(((aW T ([]:List aR)).last:Nat):Int),0,rfl,bP.kM 1,(.inr ⟨T,CN,v8,D2,.inr ⟨by omega,rfl,rfl,rfl,rfl⟩⟩)⟩))))))))))
end Go.Proofs.YtpbgmkhmdbchpaaGreatDoor
namespace Go.Sx
theorem Gv {p:Prop} (h:p:=by first|omega|(simp only [qT];omega)):p:=h
theorem Gw {p:Prop} (h:p:=by first|omega|(simp only [qT,List.length_replicate];omega)):p:=h
end Go.Sx
namespace Go.Proofs.YtpbgmkhmdbchpaaGreatDoor
open Go Go.Sx
theorem CA (t:aR) (z:Int) (w:World) (hf:ZP t z):
 Calls Tryz.prog 177 #[.agg #[ai t.kind,ai t.a,ai t.b,aj t.set.w0,aj t.set.w1,aj t.set.w2,aj t.set.w3],ai z] w (aX fun v w'=>v= .bool true∧ax w [] w' []):=by
 have tE:1≤t.kind∧t.kind≤6∧(t.kind≠1→t.set=Bs.zero)∧(t.kind≠3→t.b=0)∧(t.kind=6→t.a=0)∧0≤t.a∧t.a<z∧0≤t.b∧t.b<z:=hf
 refine cH Tryz.func177 (h:=fun H0=>ab 2 (h:=jf H0 (k:=fun w1 H1=>o9 4 [4,2,1] 0 H1 (fun B R L e v=>∃q:Bool,e=(43,.bool q)::B∧av w L v (R)∧(q=false)) ?_ ?_)))
 refine ab 2 (h:=aM (H1.b 0) (k:=b9 2 8 (fun adJ=>?_) fun adJ=>?_))
 exact cA 36 (h:=by exact ⟨true,rfl,H1,(by first|rfl|(exfalso;omega)|(exfalso;exact absurd (tE.2.2.1 oz) (by assumption))|(rw [decide_eq_false_iff_not];omega)|(rw [decide_eq_false_iff_not];exact fun h9=>h9 (tE.2.2.1 oz)))⟩)
 refine ab 1 (h:=aM (H1.b 0) (k:=b9 3 13 (fun YD=>?_) fun YD=>?_))
 exact cA 31 (h:=by exact ⟨true,rfl,H1,(by first|rfl|(exfalso;omega)|(exfalso;exact absurd (tE.2.2.1 oz) (by assumption))|(rw [decide_eq_false_iff_not];omega)|(rw [decide_eq_false_iff_not];exact fun h9=>h9 (tE.2.2.1 oz)))⟩)
 refine ab 1 (h:=aM (H1.b 0) (k:=b9 2 17 (fun T7=>?_) fun T7=>?_))
 refine ab 1 (h:=cd (H1.b 0) (k:=ab 0 (h:=cu (us:=[aj Bs.zero.w0,aj Bs.zero.w1,aj Bs.zero.w2,aj Bs.zero.w3]) (k:=?_))))
 refine aN 0 rfl (FW t.set Bs.zero rfl rfl Tryz.underlying87 Tryz.underlying85 kc iA (b9 3 24 (fun Aw=>?_) fun Aw=>?_))
 exact cA 20 (h:=by exact ⟨true,rfl,H1,(by first|rfl|(exfalso;omega)|(exfalso;exact absurd (tE.2.2.1 oz) (by assumption))|(rw [decide_eq_false_iff_not];omega)|(rw [decide_eq_false_iff_not];exact fun h9=>h9 (tE.2.2.1 oz)))⟩)
 refine ab 1 (h:=aM (H1.b 0) (k:=b9 2 28 (fun oo=>?_) fun oo=>?_))
 refine ab 1 (h:=aM (H1.b 0) (k:=b9 4 34 (fun lU=>?_) fun lU=>?_))
 exact cA 10 (h:=by exact ⟨true,rfl,H1,(by first|rfl|(exfalso;omega)|(exfalso;exact absurd (tE.2.2.1 oz) (by assumption))|(rw [decide_eq_false_iff_not];omega)|(rw [decide_eq_false_iff_not];exact fun h9=>h9 (tE.2.2.1 oz)))⟩)
 refine ab 1 (h:=aM (H1.b 0) (k:=b9 2 38 (fun FI=>?_) fun FI=>?_))
 exact ab 1 (h:=aM (H1.b 0) (k:=cA 4 (h:=by exact ⟨decide (t.a≠(0:Int)),rfl,H1,(by first|rfl|(exfalso;omega)|(exfalso;exact absurd (tE.2.2.1 oz) (by assumption))|(rw [decide_eq_false_iff_not];omega)|(rw [decide_eq_false_iff_not];exact fun h9=>h9 (tE.2.2.1 oz)))⟩)))
 exact cA 6 (h:=by exact ⟨false,rfl,H1,(by first|rfl|(exfalso;omega)|(exfalso;exact absurd (tE.2.2.1 oz) (by assumption))|(rw [decide_eq_false_iff_not];omega)|(rw [decide_eq_false_iff_not];exact fun h9=>h9 (tE.2.2.1 oz)))⟩)
 refine ab 7 (h:=aM (H1.b 0) (k:=b9 2 38 (fun lU=>?_) fun lU=>?_))
 exact ab 1 (h:=aM (H1.b 0) (k:=cA 4 (h:=by exact ⟨decide (t.a≠(0:Int)),rfl,H1,(by first|rfl|(exfalso;omega)|(exfalso;exact absurd (tE.2.2.1 oz) (by assumption))|(rw [decide_eq_false_iff_not];omega)|(rw [decide_eq_false_iff_not];exact fun h9=>h9 (tE.2.2.1 oz)))⟩)))
 exact cA 6 (h:=by exact ⟨false,rfl,H1,(by first|rfl|(exfalso;omega)|(exfalso;exact absurd (tE.2.2.1 oz) (by assumption))|(rw [decide_eq_false_iff_not];omega)|(rw [decide_eq_false_iff_not];exact fun h9=>h9 (tE.2.2.1 oz)))⟩)
 refine ab 8 (h:=aM (H1.b 0) (k:=b9 2 28 (fun Aw=>?_) fun Aw=>?_))
 refine ab 1 (h:=aM (H1.b 0) (k:=b9 4 34 (fun oo=>?_) fun oo=>?_))
 exact cA 10 (h:=by exact ⟨true,rfl,H1,(by first|rfl|(exfalso;omega)|(exfalso;exact absurd (tE.2.2.1 oz) (by assumption))|(rw [decide_eq_false_iff_not];omega)|(rw [decide_eq_false_iff_not];exact fun h9=>h9 (tE.2.2.1 oz)))⟩)
 refine ab 1 (h:=aM (H1.b 0) (k:=b9 2 38 (fun lU=>?_) fun lU=>?_))
 exact ab 1 (h:=aM (H1.b 0) (k:=cA 4 (h:=by exact ⟨decide (t.a≠(0:Int)),rfl,H1,(by first|rfl|(exfalso;omega)|(exfalso;exact absurd (tE.2.2.1 oz) (by assumption))|(rw [decide_eq_false_iff_not];omega)|(rw [decide_eq_false_iff_not];exact fun h9=>h9 (tE.2.2.1 oz)))⟩)))
 exact cA 6 (h:=by exact ⟨false,rfl,H1,(by first|rfl|(exfalso;omega)|(exfalso;exact absurd (tE.2.2.1 oz) (by assumption))|(rw [decide_eq_false_iff_not];omega)|(rw [decide_eq_false_iff_not];exact fun h9=>h9 (tE.2.2.1 oz)))⟩)
 refine ab 7 (h:=aM (H1.b 0) (k:=b9 2 38 (fun oo=>?_) fun oo=>?_))
 exact ab 1 (h:=aM (H1.b 0) (k:=cA 4 (h:=by exact ⟨decide (t.a≠(0:Int)),rfl,H1,(by first|rfl|(exfalso;omega)|(exfalso;exact absurd (tE.2.2.1 oz) (by assumption))|(rw [decide_eq_false_iff_not];omega)|(rw [decide_eq_false_iff_not];exact fun h9=>h9 (tE.2.2.1 oz)))⟩)))
 exact cA 6 (h:=by exact ⟨false,rfl,H1,(by first|rfl|(exfalso;omega)|(exfalso;exact absurd (tE.2.2.1 oz) (by assumption))|(rw [decide_eq_false_iff_not];omega)|(rw [decide_eq_false_iff_not];exact fun h9=>h9 (tE.2.2.1 oz)))⟩)
 rintro Γ1 w2 ⟨q,rfl,H2,hq⟩
 refine dv 0 (fun N2=>?_) fun N2=>?_
 exfalso;rw [hq] at N2;cases N2
 refine o9 2 [] 0 H2 (fun B R L e v=>∃q2:Bool,e=(4,.bool q2)::B∧av w L v (R)∧(q2=true)) ?_ ?_
 refine ab 2 (h:=aM (H2.b 0) (k:=b9 2 47 (fun adH=>?_) fun adH=>?_))
 refine ab 1 (h:=aM (H2.b 0) (k:=b9 4 53 (fun YB=>?_) fun YB=>?_))
 refine ab 1 (h:=aM (H2.b 0) (k:=b9 3 58 (fun T5=>?_) fun T5=>?_))
 exact ab 1 (h:=aM (H2.b 0) (k:=cA 5 (h:=by exact ⟨decide (t.b<z),rfl,H2,(by first|(exfalso;omega)|(rw [decide_eq_true_eq];omega))⟩)))
 exact cA 7 (h:=by exact ⟨false,rfl,H2,(by first|(exfalso;omega)|(rw [decide_eq_true_eq];omega))⟩)
 exact cA 12 (h:=by exact ⟨false,rfl,H2,(by first|(exfalso;omega)|(rw [decide_eq_true_eq];omega))⟩)
 exact cA 18 (h:=by exact ⟨false,rfl,H2,(by first|(exfalso;omega)|(rw [decide_eq_true_eq];omega))⟩)
 rintro Γ2 w3 ⟨q2,rfl,H3,Am⟩
 exact bE 1 (h:=⟨(by rw [Am]),H3.af⟩)
theorem qd (ir:aP) (st:List aR) (iq:Nat) (s0:Int) (f0:Int) (w:World) (jD:cP br w ir st iq) (hN:rU st s0 f0):
 Calls Tryz.prog 153 #[.agg #[aH ir st iq,ai s0,ai f0]] w (aX fun v w'=>v= .bool true∧ax w [] w' []):=by
 have hl:=hN.len
 have hs:=hN.s
 have As:=hN.f
 have qh:=jD.le
 refine cH Tryz.func153 (h:=fun H0=>ab 2 (h:=jf H0 (k:=fun w1 H1=>ab 6 (h:=aM (H1.b 0) (k:=b9 10 11 (fun adF=>?_) fun adF=>?_)))))
 omega
 refine ab 1 (h:=aM (H1.b 0) (k:=b9 3 16 (fun Yz=>?_) fun Yz=>?_))
 omega
 refine ab 1 (h:=aM (H1.b 0) (k:=b9 4 22 (fun T3=>?_) fun T3=>?_))
 omega
 refine ab 1 (h:=aM (H1.b 0) (k:=b9 3 27 (fun Qg=>?_) fun Qg=>?_))
 omega
 refine ab 1 (h:=aM (H1.b 0) (k:=cv 5 [32,3,2,1] (h:=aC 0 (fun jx=>?_) fun jx=>?_)))
 exfalso;omega
 refine ab 6 (h:=aM (H1.b 0) (k:=dA 5 [36,35,34,3,2,1] (fun B R L m e v=>∃k,e=(36,b7 k)::B∧av w L v (R)∧(k≤st.length)∧m=st.length-k) (i:=⟨0,rfl,H1,om,rfl⟩) (h:=?_)))
 rintro m1 Γ1 w2 ⟨k,rfl,H2,hk,rfl⟩
 refine aC 6 (fun UU=>?_) fun UU=>?_
 refine ab 7 (h:=jb k (jD.at H2) (k:=ab 0 (h:=Fl (jD.at H2) (k:=ab 0 (h:=dB H2 (k:=fun w3 H3=>aY 1 (h:=bL H3 1 (k:=fun w4 H4=>?_))))))))
 have OE:=hN.RW k oz
 refine ab 4 (h:=cd (H4.b 1) (k:=ab 1 (h:=aA (c:=CA (st.getD k ay) _ w4 OE.1) (k:=?_))))
 rintro _ w5 ⟨rfl,u4⟩
 have H5:=H4.call u4
 refine ab 3 (h:=aM (H5.b 1) (k:=ab 3 (h:=aM (H5.b 0) (k:=?_))))
 refine aN 1 rfl (oA Tryz.underlying4 rfl rfl (aC 3 (fun Zm=>?_) fun Zm=>?_))
 exfalso;exact Zm (by rw [Bool.eq_iff_iff];simp only [decide_eq_true_eq];exact OE.2)
 exact ab 4 (h:=aV (k:=cm 2 (h:=by exact ⟨k+1,rfl,(H5.pm [0] rfl rfl),om,rfl⟩)))
 exact bE 8 (h:=⟨rfl,H2.af⟩)
theorem q8 (x:Int) (gi:Nat) (ia:aP) (o:List Bool) (ic:Nat) (S9:Nat) (gt:Nat) (ta:aP) (td:List Int) (tc:Nat) (w:World) (hp:Hp w [aQ gi #[.slice ia S9 ic] 26,ag bC (.slice ia S9 ic) 4 o,aQ gt #[aH ta td tc] 25,cE (aw .i64) 3 ta td tc]) (Bd:S9=o.length) (hx:0≤x∧x<(o.length:Int)) (VA:td.length≤100000):
 Calls Tryz.prog 195 #[ai x,.pointer (some ⟨gi,0,none⟩),.pointer (some ⟨gt,0,none⟩)] w (aX fun v w'=>∃uZ,∃uY:Nat,v= .tuple #[]∧ax w [aQ gi #[.slice ia S9 ic] 26,ag bC (.slice ia S9 ic) 4 o,aQ gt #[aH ta td tc] 25,cE (aw .i64) 3 ta td tc] w' [aQ gi #[.slice ia S9 ic] 26,ag bC (.slice ia S9 ic) 4 (fD o x),aQ gt #[aH uZ (fL o td x) uY] 25,cE (aw .i64) 3 uZ (fL o td x) uY]):=by
 refine tW hp Tryz.func195 (h:=fun H0=>b9 5 6 (fun adB=>?_) fun adB=>?_)
 refine ab 1 (h:=aM (H0.b 0) (k:=b9 4 12 (fun Yy=>?_) fun Yy=>?_))
 refine ab 0 (h:=aM (H0.b 0) (k:=ab 1 (h:=cg x.toNat (H0.rt 1) (cD:=oz) (k:=ab 0 (h:=cI (H0.rt 1) (k:=dv 4 (fun Gc=>?_) fun Gc=>?_))))))
 refine ab 2 (h:=aM (H0.b 0) (k:=ab 1 (h:=cg x.toNat (H0.rt 1) (cD:=oz) (k:=aY 0 (h:=tX true H0 1 (k:=fun w1 H1=>ab 3 (h:=aM (H1.b 2) (k:=ab 1 (h:=dL (aw .i64) [x] H1 (k:=fun w2 H2=>ab 0 (h:=kJ H2 3 (H2.rt 4) (hb:=dD) (kW:=dD) (k:=fun a1 c1 w3 H3x=>?_))))))))))))
 have H3:=(H3x.drop 4).no
 refine aY 0 (h:=jV H3 2 (k:=fun w4 H4=>DY 1 (h:=?_)))
 have e1:fD o x=o.set x.toNat true:=if_neg (by simpa using Gc)
 have e2:fL o td x=td++[x]:=if_neg (by simpa using Gc)
 rw [e1,e2]
 exact ⟨a1,c1,rfl,(H4.se [0,1,2,3])⟩
 refine DY 1 (h:=?_)
 have e1:fD o x=o:=if_pos (by simpa using Gc)
 have e2:fL o td x=td:=if_pos (by simpa using Gc)
 rw [e1,e2]
 exact ⟨ta,tc,rfl,(H0.se [0,1,2,3])⟩
 omega
 omega
theorem yC (ir:aP) (st:List aR) (iq:Nat) (s0:Int) (f0:Int) (C9:aP) (fr:List Int) (C8:Nat) (sym:Int) (w:World) (jD:bz br w (.slice ir st.length iq) st) (DZ:bz (aw .i64) w (.slice C9 fr.length C8) fr) (hN:rU st s0 f0) (As:fr.length≤5000) (pU:∀t,t∈fr→0≤t∧t<(st.length:Int)):
 Calls Tryz.prog 180 #[.agg #[.slice ir st.length iq,ai s0,ai f0],.slice C9 fr.length C8,ai sym] w (aX fun v w'=>∃a2 c2,∃o2:List Bool,v= .slice a2 o2.length c2∧ax w [] w' [ag bC (.slice a2 o2.length c2) 4 o2]∧(qB st fr sym o2)):=by
 have hl:=hN.len
 have qh:=jD.le
 have Ms:=DZ.le
 refine cH Tryz.func180 (h:=fun H0=>ab 2 (h:=jf H0 (k:=fun w1 H1=>ab 6 (h:=aM (H1.b 0) (k:=?_)))))
 refine aN 1 rfl (jo st.length false (T:=bC) rfl Tryz.underlying26 Wl rfl rfl rfl rfl oz oz fun w2 u2=>?_)
 have H2:=H1.nw u2
 refine ab 0 (h:=dB H2 (k:=fun w3 H3=>aY 0 (h:=jV H3 2 (k:=fun w4 H4=>ab 4 (h:=dB H4 (k:=fun w5 H5=>?_))))))
 refine aN 4 rfl (mS rfl rfl ?_)
 have H6:=H5.nr (aw .i64) 3
 have H7:=H6.sn
 have H8:=H7.ps [1,2,3,4,0]
 refine dA 12 [20,19,18,9,8,7,6,3,2] (fun B R L m e v=>∃k,∃o:List Bool,∃td:List Int,∃Wh Wg,e=(20,b7 k)::B∧av w L v ([ag bC (.slice (some ⟨w1.heap.size,0,none⟩) ((List.replicate st.length false).length) st.length) 4 o]::[aQ w2.heap.size #[.slice (some ⟨w1.heap.size,0,none⟩) ((List.replicate st.length false).length) st.length] 26]::[aQ w4.heap.size #[.slice Wh td.length Wg] 25]::[ag (aw .i64) (.slice Wh td.length Wg) 3 td]::R)∧(k≤fr.length)∧(A0 st.length fr o td k)∧(2*cf o+td.length≤2*st.length)∧m=fr.length-k) (i:=⟨0,List.replicate st.length false,[],none,0,rfl,(H8.re rfl),om,(by exact A0.start _ _),(by have h9:=R1 (List.replicate st.length false);simp only [List.length_replicate,List.length_nil] at h9 ⊢;omega),rfl⟩) (h:=?_)
 rintro m1 Γ1 w6 ⟨k,o,td,Wh,Wg,rfl,H9,hk,hP,hB,rfl⟩
 have Fx:=hP.len
 refine aC 6 (fun UQ=>?_) fun UQ=>?_
 refine ab 6 (h:=cg k (DZ.at H9) (k:=ab 0 (h:=cI (DZ.at H9) (k:=?_))))
 have hfk:=pU _ (ak (d:=0) (show k<fr.length by omega))
 have bW:av _ _ _ [[_,_],[_],[_],[_]]:=av.of (ax.iW H9 (l:=[1,0,2,3,4]) rfl rfl) rfl
 have bP:av _ _ _ [[_,_],[_,_],[_]]:=av.of (ax.iW bW (l:=[2,3,0,1,4]) rfl rfl) rfl
 refine aN 6 rfl (jO G6 rfl rfl (aX.calls (q8 _ _ (some ⟨w1.heap.size,0,none⟩) o st.length ((List.replicate st.length false).length) _ Wh td Wg w6 (bP.CQ 1 0 rfl rfl rfl) Gw Gv oz) fun _ w7 p1=>?_))
 obtain ⟨gV,gU,rfl,u6⟩:=p1
 have ck:av _ _ _ [[_,_],[_,_],[_]]:=(bP.fE (A':=[aQ w2.heap.size #[.slice (some ⟨w1.heap.size,0,none⟩) ((List.replicate st.length false).length) st.length] 26,ag bC (.slice (some ⟨w1.heap.size,0,none⟩) ((List.replicate st.length false).length) st.length) 4 (fD o (fr.getD k 0))]) (B':=[aQ w4.heap.size #[.slice gV ((fL o td (fr.getD k 0)).length) gU] 25,ag (aw .i64) (.slice gV ((fL o td (fr.getD k 0)).length) gU) 3 (fL o td (fr.getD k 0))]) (C:=[]) 1 0 rfl rfl rfl u6).re rfl
 refine ab 4 (h:=aV (k:=?_))
 have cU:av _ _ _ [[_,_],[_],[_],[_]]:=ck.re rfl
 have cN:=cU.sn
 exact cm 2 (h:=by exact ⟨k+1,fD o (fr.getD k 0),fL o td (fr.getD k 0),gV,gU,rfl,(cN.pm [3,2,0,1,4] rfl rfl),om,(by exact hP.put oz pU),(by have h9:=zJ td (o:=o) (x:=fr.getD k 0) oz;omega),rfl⟩)
 refine dA 4 [9,8,7,6,3,2] (fun B R L m e v=>∃ou:List Bool,∃tu:List Int,∃Vr Vq,e=B∧av w L v ([ag bC (.slice (some ⟨w1.heap.size,0,none⟩) ((List.replicate st.length false).length) st.length) 4 ou]::[aQ w2.heap.size #[.slice (some ⟨w1.heap.size,0,none⟩) ((List.replicate st.length false).length) st.length] 26]::[aQ w4.heap.size #[.slice Vr tu.length Vq] 25]::[ag (aw .i64) (.slice Vr tu.length Vq) 3 tu]::R)∧(uk (zQ st sym) st.length fr ou tu)∧(2*cf ou+tu.length≤2*st.length)∧m=2*cf ou+tu.length) (i:=⟨o,td,Wh,Wg,rfl,H9,(by exact hP.done oz),oz,rfl⟩) (h:=?_)
 rintro m2 Γ2 w8 ⟨ou,tu,Vr,Vq,rfl,dt,hI,hBx,rfl⟩
 have hou:=hI.len
 refine ab 3 (h:=aM (dt.b 2) (k:=aC 4 (fun NY=>?_) fun NY=>?_))
 have acQ:=hI.Ai (tu.getD (tu.length-1) 0) (ak oz)
 have hJ:=hI.pop oz
 have me:=qZ (sym:=sym) hN acQ.1
 have OE:=(hN.RW (tu.getD (tu.length-1) 0).toNat oz).1
 obtain ⟨_,_,_,_,_,hf6,hf7,hf8,hf9⟩:=OE
 have htk:(tu.take (tu.length-1)).length=tu.length-1:=by simp
 have Tz:=zJ (tu.take (tu.length-1)) (o:=ou) (x:=(st.getD (tu.getD (tu.length-1) 0).toNat ay).b) oz
 have Fy:=zJ (fL ou (tu.take (tu.length-1)) (st.getD (tu.getD (tu.length-1) 0).toNat ay).b) (o:=fD ou (st.getD (tu.getD (tu.length-1) 0).toNat ay).b) (x:=(st.getD (tu.getD (tu.length-1) 0).toNat ay).a) (by rw [qT];omega)
 have VM:=zJ (tu.take (tu.length-1)) (o:=ou) (x:=(st.getD (tu.getD (tu.length-1) 0).toNat ay).a) oz
 refine fI 4 dt (h:=fun w9 dw=>c7 1 1 (dw.b 4) (D:=fun _ hC=>aM hC) (h:=c7 0 2 (dw.b 2) (D:=fun _ hC=>aM hC) (h:=c7 0 3 (dw.b 2) (D:=fun _ hC=>aM hC) (h:=gk 1 5 (D:=fun _=>kB) (h:=cp 0 6 (dw.rt 3) (D:=fun _ hC=>cg (tu.length-1) hC (cD:=oz)) (h:=cp 0 7 (dw.rt 3) (D:=fun _ hC=>cI hC) (h:=cp 0 8 (jD.at dw) (D:=fun _ hC=>jb ((tu.getD (tu.length-1) 0).toNat) hC (cD:=oz)) (h:=cp 0 9 (jD.at dw) (D:=fun _ hC=>Fl hC) (h:=dj 0 10 (D:=dB dw (k:=fun iy fH=>?_)))))))))))
 refine ⟨⟨(jD.at fH),(jD.at fH),(fH.rt 3),(fH.rt 3),trivial,trivial,(fH.b 2),(fH.b 2),(fH.b 4),trivial,trivial⟩,?_⟩
 refine dj 0 11 (D:=bL fH 5 (k:=fun gS il=>?_))
 refine ⟨trivial,?_⟩
 refine ab 4 (h:=aM (il.b 2) (k:=ab 0 (h:=aM (il.b 2) (k:=ab 1 (h:=kB (k:=?_))))))
 refine aN 0 rfl (BC (((tu.length:Nat):Int)-1) (tu.length-1) (T:=(aw .i64)) (e:=3) (xs:=tu) rfl Tryz.underlying25 xv rfl rfl (il.ow 3) oz oz fun jz u9=>?_)
 have jh:=il.un 3 u9
 refine aY 0 (h:=jV jh 2 (k:=fun kK eH=>ab 12 (h:=aM (eH.b 5) (k:=aC 4 (fun xQ=>?_) fun xQ=>?_))))
 refine ab 5 (h:=aM (eH.b 5) (k:=?_))
 have lf:av _ _ _ [[_,_],[_],[_],[_],[_]]:=av.of (ax.iW eH (l:=[1,0,2,3,4,5]) rfl rfl) rfl
 have ji:av _ _ _ [[_,_],[_,_],[_],[_]]:=av.of (ax.iW lf (l:=[2,3,0,1,4,5]) rfl rfl) rfl
 refine aN 0 rfl (jO G6 rfl rfl (aX.calls (q8 _ _ (some ⟨w1.heap.size,0,none⟩) ou st.length ((List.replicate st.length false).length) _ Vr (tu.take (tu.length-1)) Vq kK (ji.CQ 1 0 rfl rfl rfl) Gw Gv oz) fun _ nH p2=>?_))
 obtain ⟨qL,qK,rfl,xr⟩:=p2
 have oI:av _ _ _ [[_,_],[_,_],[_],[_]]:=(ji.fE (A':=[aQ w2.heap.size #[.slice (some ⟨w1.heap.size,0,none⟩) ((List.replicate st.length false).length) st.length] 26,ag bC (.slice (some ⟨w1.heap.size,0,none⟩) ((List.replicate st.length false).length) st.length) 4 (fD ou ((st.getD ((tu.getD (tu.length-1) 0).toNat) ay).b))]) (B':=[aQ w4.heap.size #[.slice qL ((fL ou (tu.take (tu.length-1)) ((st.getD ((tu.getD (tu.length-1) 0).toNat) ay).b)).length) qK] 25,ag (aw .i64) (.slice qL ((fL ou (tu.take (tu.length-1)) ((st.getD ((tu.getD (tu.length-1) 0).toNat) ay).b)).length) qK) 3 (fL ou (tu.take (tu.length-1)) ((st.getD ((tu.getD (tu.length-1) 0).toNat) ay).b))]) (C:=[]) 1 0 rfl rfl rfl xr).re rfl
 refine cv 3 [12,9,8,7,6,3,2] (h:=ab 4 (h:=aM (oI.b 3) (k:=?_)))
 refine aN 0 rfl (jO G6 rfl rfl (aX.calls (q8 _ _ (some ⟨w1.heap.size,0,none⟩) (fD ou ((st.getD ((tu.getD (tu.length-1) 0).toNat) ay).b)) st.length ((List.replicate st.length false).length) _ qL (fL ou (tu.take (tu.length-1)) ((st.getD ((tu.getD (tu.length-1) 0).toNat) ay).b)) qK nH (oI.CQ 1 0 rfl rfl rfl) Gw Gv oz) fun _ tU p3=>?_))
 obtain ⟨K5,K2,rfl,tV⟩:=p3
 have nF:av _ _ _ [[_,_],[_,_],[_],[_]]:=(oI.fE (A':=[aQ w2.heap.size #[.slice (some ⟨w1.heap.size,0,none⟩) ((List.replicate st.length false).length) st.length] 26,ag bC (.slice (some ⟨w1.heap.size,0,none⟩) ((List.replicate st.length false).length) st.length) 4 (fD (fD ou ((st.getD ((tu.getD (tu.length-1) 0).toNat) ay).b)) ((st.getD ((tu.getD (tu.length-1) 0).toNat) ay).a))]) (B':=[aQ w4.heap.size #[.slice K5 ((fL (fD ou ((st.getD ((tu.getD (tu.length-1) 0).toNat) ay).b)) (fL ou (tu.take (tu.length-1)) ((st.getD ((tu.getD (tu.length-1) 0).toNat) ay).b)) ((st.getD ((tu.getD (tu.length-1) 0).toNat) ay).a)).length) K2] 25,ag (aw .i64) (.slice K5 ((fL (fD ou ((st.getD ((tu.getD (tu.length-1) 0).toNat) ay).b)) (fL ou (tu.take (tu.length-1)) ((st.getD ((tu.getD (tu.length-1) 0).toNat) ay).b)) ((st.getD ((tu.getD (tu.length-1) 0).toNat) ay).a)).length) K2) 3 (fL (fD ou ((st.getD ((tu.getD (tu.length-1) 0).toNat) ay).b)) (fL ou (tu.take (tu.length-1)) ((st.getD ((tu.getD (tu.length-1) 0).toNat) ay).b)) ((st.getD ((tu.getD (tu.length-1) 0).toNat) ay).a))]) (C:=[]) 1 0 rfl rfl rfl tV).re rfl
 have nE:av _ _ _ [[_,_],[_],[_],[_],[_]]:=nF.re rfl
 have pM:=nE.sn
 exact cm 4 (h:=by exact ⟨fD (fD ou ((st.getD ((tu.getD (tu.length-1) 0).toNat) ay).b)) ((st.getD ((tu.getD (tu.length-1) 0).toNat) ay).a),fL (fD ou ((st.getD ((tu.getD (tu.length-1) 0).toNat) ay).b)) (fL ou (tu.take (tu.length-1)) ((st.getD ((tu.getD (tu.length-1) 0).toNat) ay).b)) ((st.getD ((tu.getD (tu.length-1) 0).toNat) ay).a),K5,K2,rfl,(pM.pm [3,2,0,1,4] rfl rfl),(by first|exact zz hJ (sw xQ) me|exact zA hJ (E3 xQ (by rw [←VE];exact AU)) me|exact vc hJ (vD xQ (by rw [←VE];exact AU))),oz,rfl⟩)
 refine o9 2 [12,9,8,7,6,3,2] 0 eH (fun B R L e v=>∃qg:Bool,e=(50,.bool qg)::B∧av w L v (R)∧(qg=goN sym (st.getD (tu.getD (tu.length-1) 0).toNat ay))) ?_ ?_
 refine ab 3 (h:=aM (eH.b 5) (k:=cv 4 [50,12,9,8,7,6,3,2] (h:=aC 0 (fun AU=>?_) fun AU=>?_)))
 exact cA 1 (h:=by exact ⟨decide (((st.getD ((tu.getD (tu.length-1) 0).toNat) ay).kind)=(2:Int)),rfl,eH,(by unfold goN;rw [Bool.eq_iff_iff];simp only [Bool.and_eq_true,decide_eq_true_eq,Bool.false_eq_true,false_iff,true_iff];omega)⟩)
 refine ab 3 (h:=aM (eH.b 5) (k:=b9 2 57 (fun adx=>?_) fun adx=>?_))
 refine b9 3 60 (fun M3=>?_) fun M3=>?_
 exact cA 9 (h:=by exact ⟨true,rfl,eH,(by unfold goN;rw [Bool.eq_iff_iff];simp only [Bool.and_eq_true,decide_eq_true_eq,Bool.false_eq_true,false_iff,true_iff];omega)⟩)
 refine aC 7 (fun Zl=>?_) fun Zl=>?_
 exact cA 1 (h:=by exact ⟨decide (sym=(258:Int)),rfl,eH,(by unfold goN;rw [Bool.eq_iff_iff];simp only [Bool.and_eq_true,decide_eq_true_eq,Bool.false_eq_true,false_iff,true_iff];omega)⟩)
 refine ab 2 (h:=aM (eH.b 5) (k:=b9 2 68 (fun FG=>?_) fun FG=>?_))
 refine b9 3 71 (fun Qd=>?_) fun Qd=>?_
 exact cA 6 (h:=by exact ⟨true,rfl,eH,(by unfold goN;rw [Bool.eq_iff_iff];simp only [Bool.and_eq_true,decide_eq_true_eq,Bool.false_eq_true,false_iff,true_iff];omega)⟩)
 exact cA 6 (h:=by exact ⟨decide (sym=(258:Int)),rfl,eH,(by unfold goN;rw [Bool.eq_iff_iff];simp only [Bool.and_eq_true,decide_eq_true_eq,Bool.false_eq_true,false_iff,true_iff];omega)⟩)
 exact cA 9 (h:=by exact ⟨false,rfl,eH,(by unfold goN;rw [Bool.eq_iff_iff];simp only [Bool.and_eq_true,decide_eq_true_eq,Bool.false_eq_true,false_iff,true_iff];omega)⟩)
 refine ab 13 (h:=aM (eH.b 5) (k:=b9 2 68 (fun M3=>?_) fun M3=>?_))
 refine b9 3 71 (fun FG=>?_) fun FG=>?_
 exact cA 6 (h:=by exact ⟨true,rfl,eH,(by unfold goN;rw [Bool.eq_iff_iff];simp only [Bool.and_eq_true,decide_eq_true_eq,Bool.false_eq_true,false_iff,true_iff];omega)⟩)
 exact cA 6 (h:=by exact ⟨decide (sym=(258:Int)),rfl,eH,(by unfold goN;rw [Bool.eq_iff_iff];simp only [Bool.and_eq_true,decide_eq_true_eq,Bool.false_eq_true,false_iff,true_iff];omega)⟩)
 exact cA 9 (h:=by exact ⟨false,rfl,eH,(by unfold goN;rw [Bool.eq_iff_iff];simp only [Bool.and_eq_true,decide_eq_true_eq,Bool.false_eq_true,false_iff,true_iff];omega)⟩)
 rintro Γ3 ur ⟨qg,rfl,pL,VE⟩
 refine dv 0 (fun AU=>?_) fun AU=>?_
 refine ab 6 (h:=aM (pL.b 5) (k:=?_))
 have rW:av _ _ _ [[_,_],[_],[_],[_],[_]]:=av.of (ax.iW pL (l:=[1,0,2,3,4,5]) rfl rfl) rfl
 have tS:av _ _ _ [[_,_],[_,_],[_],[_]]:=av.of (ax.iW rW (l:=[2,3,0,1,4,5]) rfl rfl) rfl
 refine aN 0 rfl (jO G6 rfl rfl (aX.calls (q8 _ _ (some ⟨w1.heap.size,0,none⟩) ou st.length ((List.replicate st.length false).length) _ Vr (tu.take (tu.length-1)) Vq ur (tS.CQ 1 0 rfl rfl rfl) Gw Gv oz) fun _ xq p4=>?_))
 obtain ⟨K4,K1,rfl,zu⟩:=p4
 have pK:av _ _ _ [[_,_],[_,_],[_],[_]]:=(tS.fE (A':=[aQ w2.heap.size #[.slice (some ⟨w1.heap.size,0,none⟩) ((List.replicate st.length false).length) st.length] 26,ag bC (.slice (some ⟨w1.heap.size,0,none⟩) ((List.replicate st.length false).length) st.length) 4 (fD ou ((st.getD ((tu.getD (tu.length-1) 0).toNat) ay).a))]) (B':=[aQ w4.heap.size #[.slice K4 ((fL ou (tu.take (tu.length-1)) ((st.getD ((tu.getD (tu.length-1) 0).toNat) ay).a)).length) K1] 25,ag (aw .i64) (.slice K4 ((fL ou (tu.take (tu.length-1)) ((st.getD ((tu.getD (tu.length-1) 0).toNat) ay).a)).length) K1) 3 (fL ou (tu.take (tu.length-1)) ((st.getD ((tu.getD (tu.length-1) 0).toNat) ay).a))]) (C:=[]) 1 0 rfl rfl rfl zu).re rfl
 have mf:av _ _ _ [[_,_],[_],[_],[_],[_]]:=pK.re rfl
 have rV:=mf.sn
 exact cm 4 (h:=by exact ⟨fD ou ((st.getD ((tu.getD (tu.length-1) 0).toNat) ay).a),fL ou (tu.take (tu.length-1)) ((st.getD ((tu.getD (tu.length-1) 0).toNat) ay).a),K4,K1,rfl,(rV.pm [3,2,0,1,4] rfl rfl),(by first|exact zz hJ (sw xQ) me|exact zA hJ (E3 xQ (by rw [←VE];exact AU)) me|exact vc hJ (vD xQ (by rw [←VE];exact AU))),oz,rfl⟩)
 exact cm 4 (h:=by exact ⟨ou,tu.take (tu.length-1),Vr,Vq,rfl,(pL.pm [0,1,2,3,4] rfl rfl),(by first|exact zz hJ (sw xQ) me|exact zA hJ (E3 xQ (by rw [←VE];exact AU)) me|exact vc hJ (vD xQ (by rw [←VE];exact AU))),oz,rfl⟩)
 exact ab 4 (h:=aM (dt.b 1) (k:=bE 4 (h:=⟨(some ⟨w1.heap.size,0,none⟩),st.length,ou,(by rw [hou,List.length_replicate]),(by have hh:=dt.kM 0;rw [List.length_replicate] at hh;rw [hou];exact hh),(hI.fin oz)⟩)))
theorem yJ (oa:aP) (o:List Bool) (oc:Nat) (w:World) (ro:cP bC w oa o oc) (Fx:o.length≤100000):
 Calls Tryz.prog 179 #[aH oa o oc] w (aX fun v w'=>∃a2,∃c2:Nat,v=aH a2 (cq o) c2∧ax w [] w' [cE (aw .i64) 3 a2 (cq o) c2]):=by
 have le_ro:=ro.le
 refine cH Tryz.func179 (h:=fun H0=>?_)
 have H1:=H0.nr (aw .i64) 3
 refine dA 19 [8,3,7,6,2] (fun B R L m e v=>∃k,∃xs:List Int,∃xa xc,e=(8,b7 k)::(3,aH xa xs xc)::B∧av w L v ([cE (aw .i64) 3 xa xs xc]::R)∧(k≤o.length)∧(xs=ri o k)∧m=o.length-k) (i:=⟨0,([]:List Int),none,0,rfl,H1,om,rfl,rfl⟩) (h:=?_)
 rintro m1 Γ1 w1 ⟨k,xs,xa,xc,rfl,H2,hk,hx,rfl⟩
 have PF:xs.length≤k:=by rw [hx];exact He o k
 refine aC 6 (fun wU=>?_) fun wU=>?_
 refine ab 7 (h:=cg k (ro.at H2) (k:=ab 0 (h:=cI (ro.at H2) (k:=dv 9 (fun UN=>?_) fun UN=>?_))))
 refine ab 3 (h:=dL (aw .i64) [((k:Nat):Int)] H2 (k:=fun w2 H3=>ab 0 (h:=kJ H3 0 (H3.rt 1) (hb:=dD) (kW:=dD) (k:=fun a1 c1 w3 Gk=>?_))))
 have H4:=(Gk.drop 1).no
 exact ab 5 (h:=aV (k:=cm 2 (h:=by exact ⟨k+1,xs++[((k:Nat):Int)],a1,c1,rfl,(H4.re rfl),om,(by first|(rw [hx];exact (Hd qI).symm)|(rw [hx];exact (Ml qI).symm)),rfl⟩)))
 exact ab 4 (h:=aV (k:=cm 2 (h:=by exact ⟨k+1,xs,xa,xc,rfl,H2,om,(by first|(rw [hx];exact (Hd qI).symm)|(rw [hx];exact (Ml qI).symm)),rfl⟩)))
 refine bE 9 (h:=?_)
 have e:xs=cq o:=by rw [hx,show k=o.length by omega];rfl
 rw [e] at H2
 exact ⟨xa,xc,(by rw [e]),(by have hh:=H2.kM 0;exact hh)⟩
theorem E7 (ir:aP) (st:List aR) (iq:Nat) (s0:Int) (f0:Int) (C9:aP) (fr:List Int) (C8:Nat) (sym:Int) (w:World) (jD:cP br w ir st iq) (DZ:cP (aw .i64) w C9 fr C8) (hN:rU st s0 f0) (As:fr.length≤5000) (pU:∀t,t∈fr→0≤t∧t<(st.length:Int)):
 Calls Tryz.prog 155 #[.agg #[aH ir st iq,ai s0,ai f0],aH C9 fr C8,ai sym] w (aX fun v w'=>∃a2,∃c2:Nat,∃o2:List Bool,v=aH a2 (cq o2) c2∧ax w [] w' [cE (aw .i64) 3 a2 (cq o2) c2]∧(qB st fr sym o2)):=by
 have qh:=jD.le
 have Ms:=DZ.le
 refine cH Tryz.func155 (h:=fun H0=>ab 2 (h:=jf H0 (k:=fun w1 H1=>ab 6 (h:=cd (H1.b 0) (k:=ab 0 (h:=aA (c:=qd ir st iq _ _ w1 (jD.at H1) hN) (k:=?_)))))))
 rintro _ w2 ⟨rfl,u2⟩
 have H2:=H1.call u2
 refine ab 8 (h:=cd (H2.b 0) (k:=ab 2 (h:=aA (c:=yC ir st iq _ _ C9 fr C8 _ w2 (jD.at H2) (DZ.at H2) hN As pU) (k:=?_))))
 rintro _ w3 ⟨bH,b6,n9,rfl,u3,xK⟩
 have H3:=H2.ns u3
 refine ab 0 (h:=aA (c:=yJ bH n9 _ w3 (H3.rt 1) (by have h9:=xK.len;have h8:=hN.len;omega)) (k:=?_))
 rintro _ w4 ⟨gF,iO,rfl,u4⟩
 have H4:=H3.ns u4
 exact bE 4 (h:=⟨gF,iO,n9,rfl,H4.kM 2,oa⟩)
theorem Jn (ir:aP) (st:List aR) (iq:Nat) (s0:Int) (f0:Int) (C9:aP) (fr:List Int) (C8:Nat) (b:Nat) (w:World) (jD:bz br w (.slice ir st.length iq) st) (DZ:bz (aw .i64) w (.slice C9 fr.length C8) fr) (hN:rU st s0 f0) (As:fr.length≤5000) (pU:∀t,t∈fr→0≤t∧t<(st.length:Int)) (hb:b<256):
 Calls Tryz.prog 181 #[.agg #[.slice ir st.length iq,ai s0,ai f0],.slice C9 fr.length C8,.int .u8 ((b:Nat):Int)] w (aX fun v w'=>∃a2,∃c2:Nat,∃o2:List Bool,v= .slice a2 ((cq o2).length) c2∧ax w [] w' [ag (aw .i64) (.slice a2 ((cq o2).length) c2) 3 (cq o2)]∧(qB st (ew st fr b) 0 o2)):=by
 have Xx:=yj st fr b
 have hl:=hN.len
 have qh:=jD.le
 have Ms:=DZ.le
 refine cH Tryz.func181 (h:=fun H0=>ab 2 (h:=jf H0 (k:=fun w1 H1=>ab 6 (h:=cd (H1.b 0) (k:=ab 0 (h:=aA (c:=qd ir st iq _ _ w1 (jD.at H1) hN) (k:=?_)))))))
 rintro _ w2 ⟨rfl,u2⟩
 have H2:=H1.call u2
 have H3:=H2.nr (aw .i64) 3
 have H4:=H3.ps [1,0]
 refine dA 20 [15,7,14,13,6,3,2] (fun B R L m e v=>∃k,∃xs:List Int,∃xa xc,e=(15,b7 k)::(7,.slice xa xs.length xc)::B∧av w L v ([ag (aw .i64) (.slice xa xs.length xc) 3 xs]::R)∧(k≤fr.length)∧(xs=ew st (fr.take k) b)∧m=fr.length-k) (i:=⟨0,([]:List Int),none,0,rfl,H4,om,rfl,rfl⟩) (h:=?_)
 rintro m1 Γ1 w3 ⟨k,xs,xa,xc,rfl,H5,hk,hx,rfl⟩
 have PF:xs.length≤k:=by rw [hx];have h9:=yj st (fr.take k) b;rw [List.length_take] at h9;omega
 refine aC 6 (fun aei=>?_) fun aei=>?_
 refine ab 6 (h:=cg k (DZ.at H5) (k:=ab 0 (h:=cI (DZ.at H5) (k:=o9 3 [9,15,7,14,13,6,3,2] 0 H5 (fun B R L e v=>∃q:Bool,e=(46,.bool q)::B∧av w L v (R)∧(q=nh st b (fr.getD k 0))) ?_ ?_))))
 have hfk:=pU _ (ak (d:=0) (show k<fr.length by omega))
 refine b9 4 21 (fun adw=>?_) fun adw=>?_
 refine ab 2 (h:=aM (H5.b 1) (k:=b9 4 28 (fun Yu=>?_) fun Yu=>?_))
 refine ab 1 (h:=aM (H5.b 1) (k:=ab 1 (h:=jb ((fr.getD k 0).toNat) (jD.at H5) (cD:=oz) (k:=ab 0 (h:=j4 (jD.at H5) (k:=ab 0 (h:=nu (jD.at H5) (k:=b9 3 37 (fun TZ=>?_) fun TZ=>?_))))))))
 refine ab 1 (h:=aM (H5.b 1) (k:=ab 1 (h:=jb ((fr.getD k 0).toNat) (jD.at H5) (cD:=oz) (k:=ab 0 (h:=j4 (jD.at H5) (k:=?_))))))
 refine aN 0 rfl (u0 ((fr.getD k 0).toNat) ay (T:=br) (us:=[_,_,_,_]) rfl rfl rfl Tryz.underlying87 rfl Sw rfl (jD.at H5) oz rfl (ab 1 (h:=aA (c:=HD ((st.getD ((fr.getD k 0).toNat) ay).set) b w3 oz) (k:=?_))))
 rintro _ w4 ⟨rfl,u3⟩
 have H6:=H5.call u3
 exact cA 2 (h:=by exact ⟨((st.getD ((fr.getD k 0).toNat) ay).set).has b,rfl,H6,(by unfold nh;first|(rw [decide_eq_true (by assumption)];simp;done)|(rw [decide_eq_false (by assumption)];simp;done)|simp_all)⟩)
 exact cA 10 (h:=by exact ⟨false,rfl,H5,(by unfold nh;first|(rw [decide_eq_true (by assumption)];simp;done)|(rw [decide_eq_false (by assumption)];simp;done)|simp_all)⟩)
 omega
 omega
 rintro Γ2 w5 ⟨q,rfl,H7,hq⟩
 refine dv 0 (fun aeh=>?_) fun aeh=>?_
 have hfk:=pU _ (ak (d:=0) (show k<fr.length by omega))
 refine ab 3 (h:=aM (H7.b 1) (k:=ab 1 (h:=jb ((fr.getD k 0).toNat) (jD.at H7) (cD:=oz) (k:=ab 0 (h:=j4 (jD.at H7) (k:=ab 0 (h:=nu (jD.at H7) (k:=ab 0 (h:=dL (aw .i64) [(st.getD ((fr.getD k 0).toNat) ay).a] H7 (k:=fun w6 H8=>ab 0 (h:=kJ H8 0 (H8.rt 2) (hb:=dD) (kW:=dD) (k:=fun a1 c1 w7 H9x=>?_))))))))))))
 have H9:=(H9x.drop 2).no
 exact ab 5 (h:=aV (k:=cm 2 (h:=by exact ⟨k+1,xs++[(st.getD ((fr.getD k 0).toNat) ay).a],a1,c1,rfl,(H9.re rfl),om,(by first|(rw [yi oz (by rw [←hq];assumption),hx];done)|(rw [BF oz (by rw [←hq];assumption),hx];done)),rfl⟩)))
 exact ab 4 (h:=aV (k:=cm 2 (h:=by exact ⟨k+1,xs,xa,xc,rfl,H7,om,(by first|(rw [yi oz (by rw [←hq];assumption),hx];done)|(rw [BF oz (by rw [←hq];assumption),hx];done)),rfl⟩)))
 refine ab 4 (h:=cd (H5.b 1) (k:=ab 1 (h:=aA (c:=yC ir st iq _ _ xa xs xc _ w3 (jD.at H5) (H5.rt 0) hN oz (by rw [hx,List.take_of_length_le oz];exact oO hN pU)) (k:=?_))))
 rintro _ w8 ⟨bH,b6,n9,rfl,u6,xK⟩
 have bW:Uu3:=(H5.iZ u6).re rfl
 refine ab 0 (h:=aA (c:=yJ bH n9 _ w8 (bW.rt 2) (by have h9:=xK.len;omega)) (k:=?_))
 rintro _ w9 ⟨gF,iO,rfl,u7⟩
 have bP:=bW.ns u7
 exact bE 4 (h:=⟨gF,iO,n9,rfl,bP.kM 3,(by have h9:=xK;rw [hx,List.take_of_length_le oz] at h9;exact h9)⟩)
theorem wB (Bj:aP) (xs:List Int) (Bi:Nat) (Ec:Nat) (Kw:aP) (ys:List Int) (Kv:Nat) (KN:Nat) (w:World) (vh:bz (aw .i64) w (.slice Bj Ec Bi) xs) (Bb:bz (aw .i64) w (.slice Kw KN Kv) ys):
 Calls Tryz.prog 71 #[.slice Bj Ec Bi,.slice Kw KN Kv] w (aX fun v w'=>v= .bool (decide (xs=ys))∧ax w [] w' []):=by
 obtain rfl:Ec=xs.length:=vh.len
 obtain rfl:KN=ys.length:=Bb.len
 have Fj:=vh.le
 have Mq:=Bb.le
 refine cH Tryz.func71 (h:=fun H0=>aC 15 (fun AQ=>?_) fun AQ=>?_)
 exact bE 6 (h:=⟨(by rw [decide_eq_false (by rintro rfl;omega)]),H0.af⟩)
 refine dA 11 [13,12,4,0,1] (fun B R L m e v=>∃k,e=(13,b7 k)::B∧av w L v (R)∧(k≤xs.length)∧(∀i,i<k→xs.getD i 0=ys.getD i 0)∧m=xs.length-k) (i:=⟨0,rfl,H0,om,(by intro i hi;omega),rfl⟩) (h:=?_)
 rintro m1 Γ1 w1 ⟨k,rfl,H1,hk,he,rfl⟩
 refine aC 6 (fun pE=>?_) fun pE=>?_
 refine fI 11 H1 (h:=fun w2 H2=>cp 2 2 (vh.at H2) (D:=fun _ hC=>cg k hC) (h:=cp 0 3 (vh.at H2) (D:=fun _ hC=>cI hC) (h:=cp 2 6 (Bb.at H2) (D:=fun _ hC=>cg k hC) (h:=cp 0 7 (Bb.at H2) (D:=fun _ hC=>cI hC) (h:=aC 3 (fun Dw=>?_) fun Dw=>?_)))))
 exact bE 6 (h:=⟨(by rw [decide_eq_false (by rintro rfl;exact Dw rfl)]),H2.af⟩)
 exact ab 4 (h:=aV (k:=cm 2 (h:=by exact ⟨k+1,rfl,H2,om,(by exact oF he (by first|omega|(rcases h1:xs.getD k 0 with _|_<;>rcases h2:ys.getD k 0 with _|_<;>simp_all))),rfl⟩)))
 exact bE 8 (h:=⟨(by rw [decide_eq_true (iE (d:=0) oz (fun i hi=>he i oz))]),H1.af⟩)
theorem FO (Bj:aP) (xs:List Bool) (Bi:Nat) (Ec:Nat) (Kw:aP) (ys:List Bool) (Kv:Nat) (KN:Nat) (w:World) (vh:bz bC w (.slice Bj Ec Bi) xs) (Bb:bz bC w (.slice Kw KN Kv) ys):
 Calls Tryz.prog 72 #[.slice Bj Ec Bi,.slice Kw KN Kv] w (aX fun v w'=>v= .bool (decide (xs=ys))∧ax w [] w' []):=by
 obtain rfl:Ec=xs.length:=vh.len
 obtain rfl:KN=ys.length:=Bb.len
 have Fj:=vh.le
 have Mq:=Bb.le
 refine cH Tryz.func72 (h:=fun H0=>aC 15 (fun AQ=>?_) fun AQ=>?_)
 exact bE 6 (h:=⟨(by rw [decide_eq_false (by rintro rfl;omega)]),H0.af⟩)
 refine dA 11 [13,12,4,0,1] (fun B R L m e v=>∃k,e=(13,b7 k)::B∧av w L v (R)∧(k≤xs.length)∧(∀i,i<k→xs.getD i false=ys.getD i false)∧m=xs.length-k) (i:=⟨0,rfl,H0,om,(by intro i hi;omega),rfl⟩) (h:=?_)
 rintro m1 Γ1 w1 ⟨k,rfl,H1,hk,he,rfl⟩
 refine aC 6 (fun pE=>?_) fun pE=>?_
 refine fI 11 H1 (h:=fun w2 H2=>cp 2 2 (vh.at H2) (D:=fun _ hC=>cg k hC) (h:=cp 0 3 (vh.at H2) (D:=fun _ hC=>cI hC) (h:=cp 2 6 (Bb.at H2) (D:=fun _ hC=>cg k hC) (h:=cp 0 7 (Bb.at H2) (D:=fun _ hC=>cI hC) (h:=?_)))))
 refine nJ 0 8 ⟨_,_,_,rfl,rfl,rfl,rfl,rfl,rfl⟩ (fun _=>oA Tryz.underlying4 rfl rfl ⟨rfl,rfl⟩) (aC 2 (fun Dw=>?_) fun Dw=>?_)
 exact bE 6 (h:=⟨(by rw [decide_eq_false (by rintro rfl;exact Dw rfl)]),H2.af⟩)
 exact ab 4 (h:=aV (k:=cm 2 (h:=by exact ⟨k+1,rfl,H2,om,(by exact oF he (by first|omega|(rcases h1:xs.getD k false with _|_<;>rcases h2:ys.getD k false with _|_<;>simp_all))),rfl⟩)))
 exact bE 8 (h:=⟨(by rw [decide_eq_true (iE (d:=false) oz (fun i hi=>he i oz))]),H1.af⟩)
theorem qx (sa:aP) (s:List Int) (sc:Nat) (sn:Nat) (w:World) (rs:bz (aw .i64) w (.slice sa sn sc) s) (hl:s.length*8≤140737488355328):
 Calls Tryz.prog 186 #[.slice sa sn sc] w (aX fun v w'=>∃a2 c2,v=aH a2 s c2∧ax w [] w' [cE (aw .i64) 3 a2 s c2]):=by
 obtain rfl:sn=s.length:=rs.len
 have Ry:=rs.le
 refine cH Tryz.func186 (h:=fun H0=>?_)
 refine aN 9 rfl (wE Tryz.underlying25 rfl (aC 2 (fun NS=>?_) fun NS=>?_))
 refine bE 6 (h:=?_)
 have e:s=[]:=rs.L8 NS
 subst e
 exact ⟨none,0,rfl,eC H0⟩
 refine aN 4 rfl (pN (T:=(aw .i64)) rfl Tryz.underlying25 xv fun w1 u1=>?_)
 have H1:=H0.nw u1
 refine ab 1 (h:=kJ H1 0 (rs.at H1) (k:=fun a1 c1 w2 H2x=>?_))
 have H2:=H2x.no
 exact bE 4 (h:=⟨a1,c1,rfl,(by have hh:=H2.kM 0;exact hh)⟩)
theorem ug:s8 Tryz.prog 3 (fun a:Int=> .int .i64 a):=ab3 Tryz.underlying3
theorem Xp:s8 Tryz.prog 9 (fun a:ByteArray=> .string a):=S7 Tryz.underlying9
theorem Mx:s8 Tryz.prog 256 ui:=ab2 iA iA (fun _ _ _ _=>by kernel_rfl)
theorem wu (Y0:aP) (cls:List Int) (YZ:Nat) (width:Int) (w:World) (SL:bz (aw .i64) w (.slice Y0 cls.length YZ) cls):
 Calls Tryz.prog 113 #[.slice Y0 cls.length YZ,ai width] w (aX fun v w'=>∃a2,∃c2:Nat,v= .slice a2 ((aE cls width).length) c2∧ax w [] w' [ag (aw .i64) (.slice a2 ((aE cls width).length) c2) 3 (aE cls width)]):=by
 have Z3:=SL.le
 refine cH Tryz.func113 (h:=fun H0=>?_)
 refine aN 14 rfl (HQ rfl rfl ?_)
 have H1:=H0.nr (aw .i64) 3
 refine dA 4 [10,5,9,4,0] (fun B R L m e v=>∃k,∃q:List Int,∃qa qc,e=(10,b7 k)::(5,.slice qa q.length qc)::B∧av w L v ([ag (aw .i64) (.slice qa q.length qc) 3 q]::R)∧(k≤(min width 259).toNat)∧(q=List.replicate k (-1))∧(q.length=k)∧m=(min width 259).toNat-k) (i:=⟨0,([]:List Int),none,0,rfl,H1,om,rfl,rfl,rfl⟩) (h:=?_)
 rintro m1 Γ1 w1 ⟨k,q,qa,qc,rfl,H2,hk,hq,RI,rfl⟩
 refine aC 6 (fun Y7=>?_) fun Y7=>?_
 refine ab 6 (h:=dL (aw .i64) [-1] H2 (k:=fun w2 H3=>ab 0 (h:=kJ H3 0 (H3.rt 1) (hb:=eR) (kW:=eR) (k:=fun a1 c1 w3 Gk=>?_))))
 have H4:=(Gk.drop 1).no
 exact ab 5 (h:=aV (k:=cm 2 (h:=by exact ⟨k+1,q++[-1],a1,c1,rfl,(H4.re rfl),om,(by rw [hq];exact (List.replicate_succ' ..).symm),im,rfl⟩)))
 refine dA 11 [18,17,16,5,4] (fun B R L m e v=>∃j,∃r:List Int,e=(18,b7 j)::B∧av w L v ([ag (aw .i64) (.slice qa q.length qc) 3 r]::R)∧(j≤cls.length)∧(KM cls (min width 259).toNat r j)∧m=cls.length-j) (i:=⟨0,q,rfl,H2,om,(by rw [hq,show k=(min width 259).toNat by omega];exact KM.start cls _),rfl⟩) (h:=?_)
 rintro m2 Γ2 w4 ⟨j,r,rfl,H5,hj,hr,rfl⟩
 have hrl:=hr.len
 refine aC 6 (fun c62=>?_) fun c62=>?_
 refine ab 7 (h:=cg j (SL.at H5) (k:=ab 0 (h:=cI (SL.at H5) (k:=b9 9 25 (fun g63=>?_) fun g63=>?_))))
 refine b9 6 31 (fun Qa=>?_) fun Qa=>?_
 refine ab 2 (h:=cg ((cls.getD j 0).toNat) (H5.rt 0) (cD:=oz) (k:=ab 0 (h:=cI (H5.rt 0) (k:=aC 4 (fun D9=>?_) fun D9=>?_))))
 exact ab 4 (h:=cg ((cls.getD j 0).toNat) (H5.rt 0) (cD:=oz) (k:=aY 0 (h:=tX ((j:Nat):Int) H5 0 (k:=fun w5 H6=>ab 4 (h:=aV (k:=cm 2 (h:=by exact ⟨j+1,r.set ((cls.getD j 0).toNat) ((j:Nat):Int),rfl,H6,om,(by first|exact hr.put oz oz oz oz|exact hr.skip oz oz),rfl⟩)))))))
 exact ab 4 (h:=aV (k:=cm 2 (h:=by exact ⟨j+1,r,rfl,H5,om,(by first|exact hr.put oz oz oz oz|exact hr.skip oz oz),rfl⟩)))
 exact ab 13 (h:=aV (k:=cm 2 (h:=by exact ⟨j+1,r,rfl,H5,om,(by first|exact hr.put oz oz oz oz|exact hr.skip oz oz),rfl⟩)))
 exact ab 19 (h:=aV (k:=cm 2 (h:=by exact ⟨j+1,r,rfl,H5,om,(by first|exact hr.put oz oz oz oz|exact hr.skip oz oz),rfl⟩)))
 refine bE 9 (h:=?_)
 have hf:=hr.fin oz
 rw [hf]
 exact ⟨qa,qc,(by rw [show r.length=q.length by omega]),(by have h9:=H5.kM 0;rw [show q.length=r.length by omega] at h9;exact h9)⟩
theorem CJ (Bj:aP) (xs:List Int) (Bi:Nat) (Kw:aP) (ys:List Int) (Kv:Nat) (w:World) (vh:bz (aw .i64) w (.slice Bj xs.length Bi) xs) (Bb:bz (aw .i64) w (.slice Kw ys.length Kv) ys) (hl:xs.length≤1000000):
 Calls Tryz.prog 116 #[.slice Bj xs.length Bi,.slice Kw ys.length Kv] w (aX fun v w'=>∃a2,∃c2:Nat,v= .tuple #[.slice a2 ((eJ xs ys).length) c2,ai (ja xs ys)]∧ax w [] w' [ag (aw .i64) (.slice a2 ((eJ xs ys).length) c2) 3 (eJ xs ys)]):=by
 have Fj:=vh.le
 have Mq:=Bb.le
 refine cH Tryz.func116 (h:=fun H0=>aC 16 (fun xo=>?_) fun xo=>?_)
 refine gh 7 (h:=?_)
 have e1:eJ xs ys=[]:=by rw [eJ,if_neg oz]
 have e2:ja xs ys=0:=by rw [ja,if_neg oz]
 rw [e1,e2]
 exact ⟨none,0,rfl,eC H0⟩
 refine aN 4 rfl (o8 ui (fun a:Int=>ai a) fun w1 u1=>?_)
 have H1:=H0.nw u1
 refine aN 7 rfl (jo xs.length (0:Int) (T:=(aw .i64)) rfl Tryz.underlying25 xv rfl rfl rfl rfl oz oz fun w2 u2=>?_)
 have H2:=H1.nw u2
 refine dA 12 [23,22,7,6,5,4,0,1] (fun B R L m e v=>∃k,∃q:List Int,∃mm:List ((Int×Int)×Int),e=(23,b7 k)::B∧av w L v ([dU ui (fun a:Int=>ai a) w.heap.size mm]::[ag (aw .i64) (.slice (some ⟨w1.heap.size,0,none⟩) ((List.replicate xs.length (0:Int)).length) xs.length) 3 q]::R)∧(k≤xs.length)∧(KK (xs.zip ys) q mm k)∧m=xs.length-k) (i:=⟨0,List.replicate xs.length (0:Int),[],rfl,(H2.re rfl),om,(by rw [show xs.length=(xs.zip ys).length by simp;omega];exact KK.start _),rfl⟩) (h:=?_)
 rintro m1 Γ1 w3 ⟨k,q,mm,rfl,H3,hk,hq,rfl⟩
 have RI:q.length=xs.length:=by rw [hq.len];simp;omega
 refine aC 6 (fun lz=>?_) fun lz=>?_
 refine fI 11 H3 (h:=fun w4 H4=>cp 2 2 (vh.at H4) (D:=fun _ hC=>cg k hC) (h:=cp 0 3 (vh.at H4) (D:=fun _ hC=>cI hC) (h:=cp 2 6 (Bb.at H4) (D:=fun _ hC=>cg k hC) (h:=cp 0 7 (Bb.at H4) (D:=fun _ hC=>cI hC) (h:=gk 0 8 (D:=fun _=>cu) (h:=dj 0 9 (D:=dB H4 (k:=fun w5 H5=>?_))))))))
 refine ⟨⟨trivial,(Bb.at H5),(Bb.at H5),trivial,trivial,(vh.at H5),(vh.at H5),trivial,trivial,trivial⟩,?_⟩
 refine dj 0 10 (D:=bL H5 2 (k:=fun w6 H6=>?_))
 refine ⟨trivial,?_⟩
 refine ab 5 (h:=cd (H6.b 2) (k:=?_))
 refine aN 0 rfl (AD (ek:=ui) (fy:=(fun a:Int=>ai a)) (xs.getD k 0,ys.getD k 0) 0 Mx Tryz.underlying254 xv rfl rfl (H6.oh 0 rfl) (cv 14 [42,10,9,8,23,22,7,6,5,4,0,1] (h:=dv 0 (fun sW=>?_) fun sW=>?_)))
 refine aN 3 rfl (Nw (ek:=ui) (fy:=(fun a:Int=>ai a)) Tryz.underlying254 rfl (H6.oh 0 rfl) (ab 5 (h:=cd (H6.b 2) (k:=?_))))
 refine zO 1 rfl (gN (ek:=ui) (fy:=(fun a:Int=>ai a)) (xs.getD k 0,ys.getD k 0) ((mm.length:Nat):Int) Mx Tryz.underlying254 rfl rfl rfl (H6.dr 0) fun w7 u5=>?_)
 have H7:=H6.un 0 u5
 exact ab 6 (h:=cg k (H7.rt 1) (k:=aY 0 (h:=tX ((mm.length:Nat):Int) H7 1 (k:=fun w8 H8=>ab 4 (h:=aV (k:=cm 2 (h:=by exact ⟨k+1,q.set k ((mm.length:Nat):Int),iC mm (xs.getD k 0,ys.getD k 0) ((mm.length:Nat):Int),rfl,(H8.pm [0,1] rfl rfl),om,(by first|exact hq.yB (by simp;omega) (lG oz oz) (N5 sW)|exact hq.new (by simp;omega) (lG oz oz) (Kh sW)),rfl⟩)))))))
 exact ab 6 (h:=cg k (H6.rt 1) (k:=aY 0 (h:=tX ((getM mm (xs.getD k 0,ys.getD k 0)).getD 0) H6 1 (k:=fun w9 H9=>ab 4 (h:=aV (k:=cm 2 (h:=by exact ⟨k+1,q.set k ((getM mm (xs.getD k 0,ys.getD k 0)).getD 0),mm,rfl,(H9.pm [0,1] rfl rfl),om,(by first|exact hq.yB (by simp;omega) (lG oz oz) (N5 sW)|exact hq.new (by simp;omega) (lG oz oz) (Kh sW)),rfl⟩)))))))
 refine aN 6 rfl (Nw (ek:=ui) (fy:=(fun a:Int=>ai a)) Tryz.underlying254 rfl (H3.oh 0 rfl) (gh 5 (h:=?_)))
 obtain ⟨e1,e2⟩:=hq.fin oz oz
 rw [e1,e2]
 exact ⟨(some ⟨w1.heap.size,0,none⟩),xs.length,(by rw [show q.length=(List.replicate xs.length (0:Int)).length by simp;omega]),(by have h9:=H3.kM 1;rw [show (List.replicate xs.length (0:Int)).length=q.length by simp;omega] at h9;exact h9)⟩
end Go.Proofs.YtpbgmkhmdbchpaaGreatDoor
namespace Go.Sx
theorem Br {p:Prop} (h:p:=by simp [aD];omega):p:=h
end Go.Sx
namespace Go.Proofs.YtpbgmkhmdbchpaaGreatDoor
open Go Go.Sx
theorem Ta (sym:Int) (w:World):
 Calls Tryz.prog 70 #[ai sym] w (aX fun v w'=>v= .bool (decide (0≤sym∧sym<259))∧ax w [] w' []):=by
 refine cH Tryz.func70 (h:=fun H0=>b9 10 5 (fun M0=>?_) fun M0=>?_)
 exact bE 7 (h:=⟨im,H0.af⟩)
 exact bE 7 (h:=⟨im,H0.af⟩)
theorem Bo (x:Int) (g:Nat) (n:Int) (w:World) (bg:w.heap[g]?=some (.cells #[ai n] 3 (0,0))):
 Calls Tryz.prog 132 #[ai x,.pointer (some ⟨g,0,none⟩)] w (aX fun v w'=>v= .bool (decide (x<0∨n≤x))∧ax w [] w' []):=by
 refine cH Tryz.func132 (h:=fun H0=>b9 10 6 (fun g15=>?_) fun g15=>?_)
 exact bE 8 (h:=⟨im,H0.af⟩)
 exact ab 1 (h:=aM (H0.nv.obj bg (by simp)) (k:=bE 6 (h:=⟨im,H0.af⟩)))
theorem pR (sa:aP) (s:List Int) (sc:Nat) (f:FuncId) (fc:List Value) (p:Int→Bool) (w:World) (rs:cP (aw .i64) w sa s sc) (bB:fQ Tryz.prog f) (hf:DW Tryz.prog f fc p w):
 Calls Tryz.prog 166 #[aH sa s sc,.func (.func f) #[] fc.toArray] w (aX fun v w'=>v=ai (ot p s)∧ax w [] w' []):=by
 have Ry:=rs.le
 refine cH Tryz.func166 (h:=fun H0=>dA 14 [8,7,4,0,1] (fun B R L m e v=>∃k,e=(8,b7 k)::B∧av w L v (R)∧(k≤s.length)∧(ot p s=dW p s k)∧m=s.length-k) (i:=⟨0,rfl,H0,om,rfl,rfl⟩) (h:=?_))
 rintro m1 Γ1 w1 ⟨k,rfl,H1,hk,hn,rfl⟩
 refine aC 6 (fun Kf=>?_) fun Kf=>?_
 refine ab 15 (h:=cg k (rs.at H1) (k:=ab 0 (h:=cI (rs.at H1) (k:=?_))))
 refine aN 0 rfl (jO bB rfl rfl (aX.calls (hf w1 H1.nv (s.getD k 0)) fun _ w2 p1=>?_))
 obtain ⟨rfl,u1⟩:=p1
 have H2:=H1.call u1
 refine dv 2 (fun Dy=>?_) fun Dy=>?_
 refine bE 7 (h:=?_)
 have e:=rF p s k oz (by simpa using Dy)
 exact ⟨(by rw [hn,e]),H2.af⟩
 exact ab 4 (h:=aV (k:=cm 2 (h:=by exact ⟨k+1,rfl,H2,om,(by rw [hn,tJ _ _ _ oz (by simpa using Dy)]),rfl⟩)))
 refine bE 8 (h:=?_)
 have e:=rG p s k oz
 exact ⟨(by rw [hn,e]),H1.af⟩
theorem sS (sa:aP) (s:List Int) (sc:Nat) (f:FuncId) (fc:List Value) (p:Int→Bool) (w:World) (rs:cP (aw .i64) w sa s sc) (bB:fQ Tryz.prog f) (hf:DW Tryz.prog f fc p w):
 Calls Tryz.prog 131 #[aH sa s sc,.func (.func f) #[] fc.toArray] w (aX fun v w'=>v= .bool (s.any p)∧ax w [] w' []):=by
 have Ry:=rs.le
 refine cH Tryz.func131 (h:=fun H0=>ab 9 (h:=aA (c:=pR sa s sc f fc p w (rs.at H0) bB (hf.keep H0.nv)) (k:=?_)))
 rintro _ w1 ⟨rfl,u1⟩
 have H1:=H0.call u1
 exact bE 5 (h:=⟨(by rw [←JZ]),H1.af⟩)
theorem uS (la:aP) (l:List Int) (lc:Nat) (n:Int) (w:World) (rl:cP (aw .i64) w la l lc):
 Calls Tryz.prog 90 #[aH la l lc,ai n] w (aX fun v w'=>v= .bool (fR l n)∧ax w [] w' []):=by
 have eI:=rl.le
 refine cH Tryz.func90 (h:=fun H0=>ab 2 (h:=jf H0 (k:=fun w1 H1=>?_)))
 refine aN 6 rfl (mS rfl rfl (ab 0 (h:=aA (c:=sS la l lc 132 [.pointer (some ⟨w.heap.size,0,none⟩)] (fun x=>decide (x<0∨n≤x)) w1 (rl.at H1) W8 (fun w' hk x=>Bo x _ n w' (hk.obj (H1.b 0) (by simp)))) (k:=?_))))
 rintro _ w2 ⟨rfl,u2⟩
 have H2:=H1.call u2
 exact bE 5 (h:=⟨(by rw [←Iw]),H2.af⟩)
theorem si (d:au) (jN:aP) (j6:aP) (kG:aP) (jM:Nat) (j5:Nat) (kF:Nat) (w:World) (np:cP (aw .i64) w jN d.cls jM) (my:cP (aw .i64) w j6 d.next j5) (nY:cP bC w kG d.acc kF):
 Calls Tryz.prog 69 #[.agg #[aH jN d.cls jM,ai d.width,ai d.start,aH j6 d.next j5,aH kG d.acc kF]] w (aX fun v w'=>v= .bool (aD d)∧ax w [] w' []):=by
 have mI:=np.le
 have mH:=my.le
 have mJ:=nY.le
 refine cH Tryz.func69 (h:=fun H0=>ab 2 (h:=jf H0 (k:=fun w1 H1=>ab 6 (h:=aM (H1.b 0) (k:=ab 9 (h:=aM (H1.b 0) (k:=b9 3 12 (fun g22=>?_) fun g22=>?_)))))))
 exact bE 27 (h:=⟨Br,H1.af⟩)
 refine ab 1 (h:=aM (H1.b 0) (k:=b9 3 17 (fun ads=>?_) fun ads=>?_))
 exact bE 22 (h:=⟨Br,H1.af⟩)
 refine ab 1 (h:=aM (H1.b 0) (k:=b9 3 22 (fun Yr=>?_) fun Yr=>?_))
 exact bE 17 (h:=⟨Br,H1.af⟩)
 refine b9 4 26 (fun TW=>?_) fun TW=>?_
 exact bE 13 (h:=⟨Br,H1.af⟩)
 refine aC 6 (fun k7=>?_) fun k7=>?_
 exact bE 6 (h:=⟨Br,H1.af⟩)
 have hb:=Mc (a:=(d.acc.length:Int)) (b:=d.width) (A:=4096) (B:=259) oz oz oz oz
 refine ab 3 (h:=aM (H1.b 0) (k:=ab 3 (h:=aM (H1.b 0) (k:=ab 0 (h:=Ha (k:=b9 2 39 (fun g24=>?_) fun g24=>?_))))))
 exact cv 13 [30,3,2,1] (h:=bE 7 (h:=⟨Br,H1.af⟩))
 refine ab 1 (h:=aM (H1.b 0) (k:=b9 3 44 (fun adr=>?_) fun adr=>?_))
 exact cv 8 [30,3,2,1] (h:=bE 7 (h:=⟨Br,H1.af⟩))
 refine ab 1 (h:=aM (H1.b 0) (k:=cv 6 [30,3,2,1] (h:=aC 0 (fun pE=>?_) fun pE=>?_)))
 exact bE 6 (h:=⟨Br,H1.af⟩)
 refine ab 6 (h:=aM (H1.b 0) (k:=ab 1 (h:=aM (H1.b 0) (k:=ab 0 (h:=aA (c:=uS jN d.cls jM _ w1 (np.at H1)) (k:=?_))))))
 rintro _ w2 ⟨rfl,u2⟩
 have H2:=H1.call u2
 refine iX 1 55 (fun Qb=>?_) fun Qb=>?_
 refine ab 1 (h:=aM (H2.b 0) (k:=ab 1 (h:=aA (c:=uS j6 d.next j5 _ w2 (my.at H2)) (k:=?_))))
 rintro _ w3 ⟨rfl,u3⟩
 have H3:=H2.call u3
 exact bE 5 (h:=⟨(by rw [aD,decide_eq_true oz];simp [Qb]),H3.af⟩)
 exact bE 9 (h:=⟨(by rw [aD,decide_eq_true oz];simp [Qb]),H2.af⟩)
theorem O3 (d:au) (jN:aP) (j6:aP) (kG:aP) (jM:Nat) (j5:Nat) (kF:Nat) (s:Int) (x5:aP) (word:List Int) (Bl:Nat) (w:World) (np:cP (aw .i64) w jN d.cls jM) (my:cP (aw .i64) w j6 d.next j5) (nY:cP bC w kG d.acc kF) (yu:cP (aw .i64) w x5 word Bl):
 Calls Tryz.prog 41 #[.agg #[aH jN d.cls jM,ai d.width,ai d.start,aH j6 d.next j5,aH kG d.acc kF],ai s,aH x5 word Bl] w (aX fun v w'=>v=ai (nS d s word)∧ax w [] w' []):=by
 have mI:=np.le
 have mH:=my.le
 have mJ:=nY.le
 have Mr:=yu.le
 refine cH Tryz.func41 (h:=fun H0=>ab 2 (h:=jf H0 (k:=fun w1 H1=>ab 6 (h:=cd (H1.b 0) (k:=ab 0 (h:=aA (c:=si d jN j6 kG jM j5 kF w1 (np.at H1) (my.at H1) (nY.at H1)) (k:=?_)))))))
 rintro _ w2 ⟨rfl,u2⟩
 have H2:=H1.call u2
 refine iX 2 12 (fun VS=>?_) fun VS=>?_
 exact bE 19 (h:=⟨(by first|rw [oR (.inl VS)]|rw [oR (.inr oz)]),H2.af⟩)
 refine b9 4 16 (fun adp=>?_) fun adp=>?_
 exact bE 15 (h:=⟨(by first|rw [oR (.inl VS)]|rw [oR (.inr oz)]),H2.af⟩)
 refine ab 2 (h:=aM (H2.b 0) (k:=aC 5 (fun wP=>?_) fun wP=>?_))
 exact bE 6 (h:=⟨(by first|rw [oR (.inl VS)]|rw [oR (.inr oz)]),H2.af⟩)
 refine dA 11 [25,1,24,23,6,3] (fun B R L m e v=>∃k q,e=(25,b7 k)::(1,ai q)::B∧av w L v (R)∧(k≤word.length)∧(0≤q∧q<(d.acc.length:Int))∧(nS d s word=ej d word k q)∧m=word.length-k) (i:=⟨0,s,rfl,H2,om,oz,(by exact GM VS oz oz),rfl⟩) (h:=?_)
 rintro m1 Γ1 w3 ⟨k,q,rfl,H3,hk,hq,hr,rfl⟩
 refine aC 6 (fun c41=>?_) fun c41=>?_
 refine ab 6 (h:=cg k (yu.at H3) (k:=ab 0 (h:=cI (yu.at H3) (k:=ab 7 (h:=aA (c:=Ta _ w3) (k:=?_))))))
 rintro _ w4 ⟨rfl,u3⟩
 have H4:=H3.call u3
 refine dv 3 (fun OG=>?_) fun OG=>?_
 exact bE 6 (h:=⟨(by rw [hr,BN oz (by intro hh;rw [decide_eq_true hh] at OG;exact absurd OG (by decide))]),H4.af⟩)
 have MH:0≤word.getD k 0∧word.getD k 0<259:=by simpa using OG
 have cB:aD d=true:=by simpa using VS
 have MU:=jX cB MH.1 MH.2
 have VO:=eA cB hq.1 hq.2 MU.2.1 MU.2.2.1
 exact fI 2 H4 (h:=fun w5 H5=>c7 1 1 (H5.b 0) (D:=fun _ hC=>aM hC) (h:=c7 2 4 (H5.b 0) (D:=fun _ hC=>aM hC) (h:=gk 0 5 (D:=fun _=>Ha) (h:=c7 1 7 (H5.b 0) (D:=fun _ hC=>aM hC) (h:=cp 1 9 (np.at H5) (D:=fun _ hC=>cg ((word.getD k 0).toNat) hC (cD:=oz)) (h:=cp 0 10 (np.at H5) (D:=fun _ hC=>cI hC) (h:=gk 0 11 (D:=fun _=>aV) (h:=cp 0 12 (my.at H5) (D:=fun _ hC=>cg (((q*d.width)+(d.cls.getD ((word.getD k 0).toNat) 0)).toNat) hC (cD:=oz)) (h:=cp 0 13 (my.at H5) (D:=fun _ hC=>cI hC) (h:=ab 5 (h:=aV (k:=cm 2 (h:=by exact ⟨k+1,d.next.getD (((q*d.width)+(d.cls.getD ((word.getD k 0).toNat) 0)).toNat) 0,rfl,H5,om,oz,(by rw [hr];exact qR oz MH.1 MH.2),rfl⟩)))))))))))))
 exact bE 9 (h:=⟨(by rw [hr,th oz]),H3.af⟩)
theorem gP (d:au) (jN:aP) (j6:aP) (kG:aP) (jM:Nat) (j5:Nat) (kF:Nat) (x5:aP) (word:List Int) (Bl:Nat) (w:World) (np:cP (aw .i64) w jN d.cls jM) (my:cP (aw .i64) w j6 d.next j5) (nY:cP bC w kG d.acc kF) (yu:cP (aw .i64) w x5 word Bl):
 Calls Tryz.prog 15 #[.agg #[aH jN d.cls jM,ai d.width,ai d.start,aH j6 d.next j5,aH kG d.acc kF],aH x5 word Bl] w (aX fun v w'=>v= .bool (fb d word)∧ax w [] w' []):=by
 have mI:=np.le
 have mH:=my.le
 have mJ:=nY.le
 have Mr:=yu.le
 refine cH Tryz.func15 (h:=fun H0=>ab 2 (h:=jf H0 (k:=fun w1 H1=>ab 5 (h:=cd (H1.b 0) (k:=ab 1 (h:=aM (H1.b 0) (k:=ab 1 (h:=aA (c:=O3 d jN j6 kG jM j5 kF _ x5 word _ w1 (np.at H1) (my.at H1) (nY.at H1) (yu.at H1)) (k:=?_)))))))))
 rintro _ w2 ⟨rfl,u2⟩
 have H2:=H1.call u2
 have cF:=O4 d d.start word
 refine b9 8 13 (fun g53=>?_) fun g53=>?_
 exact ab 1 (h:=aM (H2.b 0) (k:=ab 1 (h:=cg ((nS d d.start word).toNat) (nY.at H2) (cD:=oz) (k:=ab 0 (h:=cI (nY.at H2) (k:=bE 5 (h:=⟨(by first|rw [tP oz]|rw [nf oz]),H2.af⟩)))))))
 exact bE 10 (h:=⟨(by first|rw [tP oz]|rw [nf oz]),H2.af⟩)
theorem sE (Bj:aP) (xs:List Int) (Bi Ec:Nat) (Kw:aP) (ys:List Int) (Kv KN:Nat) (w:World) (vh:bz (aw .i64) w (.slice Bj Ec Bi) xs) (Bb:bz (aw .i64) w (.slice Kw KN Kv) ys) (hl:xs.length≤1000000):
    Calls Tryz.prog 116 #[.slice Bj Ec Bi,.slice Kw KN Kv] w (aX fun v w'=>∃a2:aP,∃c2:Nat,v= .tuple #[.slice a2 ((eJ xs ys).length) c2,.int .i64 (ja xs ys)]∧ax w [] w' [ag (aw .i64) (.slice a2 ((eJ xs ys).length) c2) 3 (eJ xs ys)]):=by
  obtain rfl:Ec=xs.length:=vh.len
  obtain rfl:KN=ys.length:=Bb.len
  exact CJ Bj xs Bi Kw ys Kv w vh Bb hl
theorem Ds (ir:aP) (st:List aR) (iq:Nat) (s0:Int) (f0:Int) (w:World) (jD:bz br w (.slice ir st.length iq) st) (rT:bz eM w (.slice (some ⟨0,0,none⟩) qu.length 64) qu) (hN:rU st s0 f0):
 Calls Tryz.prog 111 #[.agg #[.slice ir st.length iq,ai s0,ai f0]] w (aX fun v w'=>∃a2 c2,∃cls:List Int,∃wd,v= .tuple #[.slice a2 cls.length c2,ai wd]∧ax w [] w' [ag (aw .i64) (.slice a2 cls.length c2) 3 cls]∧(DV st cls wd)):=by
 have hl:=hN.len
 have qh:=jD.le
 have jC:=rT.le
 refine cH Tryz.func111 (h:=fun H0=>ab 2 (h:=jf H0 (k:=fun w1 H1=>ab 7 (h:=cd (H1.b 0) (k:=ab 0 (h:=aA (c:=qd ir st iq _ _ w1 (jD.at H1) hN) (k:=?_)))))))
 rintro _ w2 ⟨rfl,u2⟩
 have H2:=H1.call u2
 refine aN 8 rfl (jo 259 (0:Int) (T:=(aw .i64)) rfl Tryz.underlying25 xv rfl rfl rfl rfl oz oz fun w3 u3=>?_)
 have H3:=H2.nw u3
 have H4:=H3.ps [1,0]
 refine dA 10 [5,4,3,2,1] (fun B R L m e v=>∃k:Nat,∃b:List Int,e=(5,b7 (256+k))::B∧av w L v ([ag (aw .i64) (.slice (some ⟨w2.heap.size,0,none⟩) ((List.replicate 259 (0:Int)).length) 259) 3 b]::R)∧(k≤3)∧(tT b k)∧m=3-k) (i:=⟨0,List.replicate 259 (0:Int),rfl,H4,om,(by exact tT.start),rfl⟩) (h:=?_)
 rintro m1 Γ1 w4 ⟨k,b,rfl,H5,hk,hb,rfl⟩
 have KG:=hb.1
 refine aC 7 (fun wP=>?_) fun wP=>?_
 exact ab 8 (h:=kB (k:=ab 0 (h:=aV (k:=ab 0 (h:=cg (256+k) (H5.rt 0) (hj:=(by first|omega|(rw [KG];omega))) (k:=aY 0 (h:=tX ((((256+k:Nat):Int)-256)+1) H5 0 (hj:=(by first|omega|(rw [KG];omega))) (k:=fun w5 H6=>ab 5 (h:=aV (k:=cm 2 (h:=by exact ⟨k+1,b.set (256+k) ((((256+k:Nat):Int)-256)+1),rfl,H6,om,(by exact hb.step oz oz),rfl⟩)))))))))))
 refine ab 11 (h:=aA (c:=sE _ b 259 ((List.replicate 259 (0:Int)).length) _ b 259 ((List.replicate 259 (0:Int)).length) w4 (H5.rt 0) (H5.rt 0) oz) (k:=?_))
 rintro _ w6 ⟨bH,b6,rfl,u5⟩
 have H7:Uu3:=(H5.iZ u5).re rfl
 refine ab 11 (h:=aM (H7.b 1) (k:=?_))
 have H8:=H7.ps [2,0,1]
 refine dA 5 [35,6,4,34,33,3,2] (fun B R L m e v=>∃q,∃c:List Int,∃ca cc wd,e=(35,b7 q)::(6,ai wd)::(4,.slice ca c.length cc)::B∧av w L v ([ag (aw .i64) (.slice ca c.length cc) 3 c]::R)∧(q≤st.length)∧(qA st q c wd)∧m=st.length-q) (i:=⟨0,eJ b b,bH,b6,ja b b,rfl,H8,om,(by rw [show k=3 by omega] at hb;exact qA.base hb),rfl⟩) (h:=?_)
 rintro m2 Γ2 w7 ⟨q,c,ca,cc,wd,rfl,H9,hq,hc,rfl⟩
 have RP:=hc.len
 refine aC 6 (fun c43=>?_) fun c43=>?_
 refine ab 6 (h:=jb q (jD.at H9) (k:=ab 0 (h:=Fl (jD.at H9) (k:=ab 0 (h:=dB H9 (k:=fun w8 bW=>aY 0 (h:=bL bW 3 (k:=fun w9 bP=>ab 6 (h:=aM (bP.b 3) (k:=aC 3 (fun Zc=>?_) fun Zc=>?_))))))))))
 exact ab 3 (h:=aV (k:=cm 2 (h:=by exact ⟨q+1,c,ca,cc,wd,rfl,(bP.pm [0,1,2] rfl rfl),om,(by first|exact hc.skip ((hN.RW q oz).1.2.2.1 (by assumption))|exact hc.join hv.1 (hv.done oz)),rfl⟩)))
 refine aN 4 rfl (jo 259 (0:Int) (T:=(aw .i64)) rfl Tryz.underlying25 xv rfl rfl rfl rfl oz oz fun iy u8=>?_)
 have ck:=bP.nw u8
 refine ab 7 (h:=cd (ck.b 3) (k:=ab 0 (h:=aA (c:=zd ((st.getD q ay).set) iy (rT.at ck)) (k:=?_))))
 rintro _ gS ⟨gF,iO,rfl,u9⟩
 have cU:=ck.ns u9
 have cN:=cU.ps [4,0,1,2,3,5]
 refine dA 5 [47,46,45,9,35,4,34,33,3,2] (fun B R L m e v=>∃j,∃u:List Int,e=(47,b7 j)::B∧av w L v ([ag (aw .i64) (.slice (some ⟨w9.heap.size,0,none⟩) ((List.replicate 259 (0:Int)).length) 259) 3 u]::R)∧(j≤(bj (st.getD q ay).set).length)∧(Q0 (st.getD q ay).set u j)∧m=(bj (st.getD q ay).set).length-j) (i:=⟨0,List.replicate 259 (0:Int),rfl,cN,om,(by exact Q0.start _),rfl⟩) (h:=?_)
 rintro m3 Γ3 jz ⟨j,u,rfl,dt,hj,hv,rfl⟩
 have hvl:=hv.1
 have JQ:=Gf (st.getD q ay).set
 refine aC 6 (fun QH=>?_) fun QH=>?_
 refine ab 6 (h:=cg j (dt.rt 5) (k:=ab 0 (h:=cI (dt.rt 5) (k:=?_))))
 have hb9:=(eN.1 (ak (d:=0) (show j<(bj (st.getD q ay).set).length by omega))).1
 exact ab 6 (h:=cg ((bj ((st.getD q ay).set)).getD j 0) (dt.rt 0) (hj:=(by first|omega|(rw [hvl];omega))) (k:=aY 0 (h:=tX 1 dt 0 (T:=(aw .i64)) (hj:=(by first|omega|(rw [hvl];omega))) (k:=fun kK dw=>ab 4 (h:=aV (k:=cm 2 (h:=by exact ⟨j+1,u.set ((bj ((st.getD q ay).set)).getD j 0) 1,rfl,dw,om,(by exact hv.step oz),rfl⟩)))))))
 refine ab 5 (h:=aA (c:=sE ca c cc c.length _ u 259 ((List.replicate 259 (0:Int)).length) jz (dt.rt 1) (dt.rt 0) oz) (k:=?_))
 rintro _ nH ⟨s4,wQ,rfl,xr⟩
 have fH:Uu7:=(dt.iZ xr).re rfl
 exact ab 9 (h:=aV (k:=cm 2 (h:=by exact ⟨q+1,eJ c u,s4,wQ,ja c u,rfl,(fH.pm [6,2,3] rfl rfl),om,(by first|exact hc.skip ((hN.RW q oz).1.2.2.1 (by assumption))|exact hc.join hv.1 (hv.done oz)),rfl⟩)))
 exact gh 11 (h:=⟨ca,cc,c,wd,rfl,H9.kM 0,(by have h9:=hc;rw [show q=st.length by omega] at h9;exact h9)⟩)
theorem E5 (ir:aP) (st:List aR) (iq:Nat) (s0 f0:Int) (C9:aP) (fr:List Int) (C8 Ub:Nat) (bI:Int) (b:Nat) (w:World) (jD:bz br w (.slice ir st.length iq) st) (DZ:bz (aw .i64) w (.slice C9 Ub C8) fr) (e_b:bI=((b:Nat):Int)) (hN:rU st s0 f0) (As:fr.length≤5000) (pU:∀t,t∈fr→0≤t∧t<(st.length:Int)) (hb:b<256):
    Calls Tryz.prog 181 #[.agg #[.slice ir st.length iq,.int .i64 s0,.int .i64 f0],.slice C9 Ub C8,.int .u8 bI] w (aX fun v w'=>∃a2:aP,∃c2:Nat,∃o2:List Bool,v= .slice a2 (cq o2).length c2∧ax w [] w' [ag (aw .i64) (.slice a2 (cq o2).length c2) 3 (cq o2)]∧(qB st (ew st fr b) 0 o2)):=by
  subst e_b
  obtain rfl:Ub=fr.length:=DZ.len
  exact Jn ir st iq s0 f0 C9 fr C8 b w jD DZ hN As pU hb
theorem tm (ir:aP) (st:List aR) (iq:Nat) (s0 f0:Int) (C9:aP) (fr:List Int) (C8 Ub:Nat) (sym:Int) (w:World) (jD:bz br w (.slice ir st.length iq) st) (DZ:bz (aw .i64) w (.slice C9 Ub C8) fr) (hN:rU st s0 f0) (As:fr.length≤5000) (pU:∀t,t∈fr→0≤t∧t<(st.length:Int)):
    Calls Tryz.prog 155 #[.agg #[.slice ir st.length iq,.int .i64 s0,.int .i64 f0],.slice C9 Ub C8,.int .i64 sym] w (aX fun v w'=>∃a2:aP,∃c2:Nat,∃o2:List Bool,v= .slice a2 (cq o2).length c2∧ax w [] w' [ag (aw .i64) (.slice a2 (cq o2).length c2) 3 (cq o2)]∧(qB st fr sym o2)):=by
  obtain rfl:Ub=fr.length:=DZ.len
  exact E7 ir st iq s0 f0 C9 fr C8 sym w jD DZ hN As pU
end Go.Proofs.YtpbgmkhmdbchpaaGreatDoor
