/- The walks of functions, printed by wip/tools/gw.py. -/
import Derived.Test.YtpbgmkhmdbchpaaGreatDoorWProgramCompilesB5
import Derived.Test.YtpbgmkhmdbchpaaGreatDoorRows
import Derived.OpenShut
import Derived.LaidMore
import Derived.LaidLaws
import Derived.MakeChecks
import Derived.Stop.Joined
import Derived.Lay
import Derived.Lib.LaidTab
import Derived.Shelf.Vars
import Derived.HandedShaped
set_option linter.unusedVariables false
set_option linter.unusedSimpArgs false
set_option linter.unusedSectionVars false
set_option maxRecDepth 20000
namespace Go.Sx
theorem VE {p:Prop} (h:p:=by simp only [List.length_set,List.length_append,List.length_singleton];omega):p:=h
end Go.Sx
namespace Go.Proofs.YtpbgmkhmdbchpaaGreatDoor
open Go Go.Sx
theorem Hf (x:Int) (g:Nat) (mg:Nat) (gm:List (Int×Int)) (w:World) (hmg:pP w (fun a:Int=>ak a) (fun a:Int=>ak a) mg gm) (bg:w.heap[g]?=some (.cells #[.map (some mg)] 258 (0,0))):
 Calls Tryz.prog 198 #[ak x,.pointer (some ⟨g,0,none⟩)] w (bj fun v w'=>v= .bool (decide ((getM gm x).getD 0=1))∧aE w [] w' []):=by
 refine cL Tryz.func198 (h:=fun H0=>ae 7 (h:=aH (H0.oG.obj bg (by simp)) (k:=?_)))
 exact aR 1 rfl (K8 (ek:=(fun a:Int=>ak a)) (fW:=(fun a:Int=>ak a)) x 0 vZ Tryz.underlying258 zM rfl rfl (yj hmg H0.oG (by simp)) (bE 5 (h:=⟨rfl,H0.ag⟩)))
theorem F8 (sa:aO) (s:List Int) (sc:Nat) (f:FuncId) (fc:List Value) (p:Int→Bool) (w:World) (hp:Hp w [cg (aw .i64) 3 sa s sc]) (hl:s.length≤100000) (bX:gJ Tryz.prog f) (hf:aeA Tryz.prog f fc p (dI [cg (aw .i64) 3 sa s sc]) w):
 Calls Tryz.prog 197 #[aG sa s sc,.func (.func f) #[] fc.toArray] w (bj fun v w'=>v=aG sa (s.filter (fun x=> !p x)) sc∧aE w [cg (aw .i64) 3 sa s sc] w' [cg (aw .i64) 3 sa (s.filter (fun x=> !p x)) sc]):=by
 have T7:=IS p s
 refine uZ hp Tryz.func197 (h:=fun H0=>ae 9 (h:=aM (c:=qT sa s sc f fc p w (H0.rt 0) bX (fun w9 k9 x=>hf w9 (H0.keep.trans k9.nil) x)) (k:=?_)))
 rintro _ w1 ⟨rfl,u1⟩
 have H1:=H0.call u1
 refine aL 10 (fun ad2=>?_) fun ad2=>?_
 refine bE 7 (h:=?_)
 have hq9:=T7.resolve_right (fun h=>by obtain ⟨k,h,_⟩:=h;omega)
 have e:s.filter (fun x=> !p x)=s:=by have h9:=Ba hq9.2;rwa [List.take_of_length_le oz] at h9
 rw [e]
 exact ⟨rfl,(H1.se [0])⟩
 obtain ⟨k0,hr,QD,hn0,hp0⟩:=T7.resolve_left (fun h=>ad2 h.1)
 have iK:pD p s=(((pD p s).toNat:Nat):Int):=by omega
 have tK:(pD p s).toNat=k0:=by omega
 refine ae 6 (h:=aX (k:=?_))
 rw [iK]
 refine cY 4 [6,5,4,0,1] (fun B R L m e v=>∃i j,∃ys:List Int,e=(6,bJ j)::(5,bJ i)::B∧aA w L v ([aj (aw .i64) (aG sa s sc) 3 ys]::R)∧(tF p s ys i j)∧(j≤s.length)∧m=s.length-j) (i:=⟨(pD p s).toNat,((pD p s).toNat+1),s,rfl,H1,(by rw [tK];exact tF.start hn0 QD hp0),om,rfl⟩) (h:=?_)
 rintro m1 Γ1 w2 ⟨i,j,ys,rfl,H2,hd,hj,rfl⟩
 have hdl:=hd.len
 have amN:=hd.le
 refine aL 9 (fun aio=>?_) fun aio=>?_
 refine ae 8 (h:=bU j (H2.rt 0) (k:=ae 0 (h:=cn (H2.rt 0) (k:=?_))))
 refine aR 7 rfl (kS bX rfl rfl (bj.calls (hf w2 H2.keep (ys.getD j 0)) fun _ w3 p2=>?_))
 obtain ⟨rfl,u2⟩:=p2
 have H3:=H2.call u2
 refine cS 3 (fun RO=>?_) fun RO=>?_
 exact ae 5 (h:=bU i (H3.rt 0) (k:=aU 0 (h:=tH (ys.getD j 0) H3 0 (k:=fun w4 H4=>ae 4 (h:=aX (k:=ae 6 (h:=aX (k:=b6 2 (h:=by exact ⟨i+1,j+1,ys.set i (ys.getD j 0),rfl,H4,(by first|exact hd.yes oz (by simpa using RO)|exact hd.no oz (by simpa using RO)),om,rfl⟩)))))))))
 exact ae 5 (h:=aX (k:=b6 2 (h:=by exact ⟨i,j+1,ys,rfl,H3,(by first|exact hd.yes oz (by simpa using RO)|exact hd.no oz (by simpa using RO)),om,rfl⟩)))
 refine aR 6 rfl (OA i Tryz.underlying25 zM rfl rfl rfl oz (xY (H2.ow 0)) ?_)
 refine Cd 0 rfl (OF i 0 (T:=(aw .i64)) (xs:=ys) rfl Tryz.underlying25 zM rfl rfl (H2.ow 0) (by exact hdl.symm) oz fun w5 u4=>?_)
 have H5:=H2.un 0 u4
 refine aR 6 rfl (OE ((i:Nat):Int) i (T:=(aw .i64)) (e:=3) (xs:=(ys.take i++List.replicate (s.length-i) 0)) rfl Tryz.underlying25 zM rfl rfl (H5.ow 0) gv rfl oz fun w6 u5=>?_)
 have H6:=H5.un 0 u5
 refine bE 4 (h:=?_)
 have e:s.filter (fun x=> !p x)=(ys.take i++List.replicate (s.length-i) 0).take i:=by have h9:=hd.fin oz;have h8:(ys.take i).length=i:=by { simp;omega };rw [←h9,List.take_append_of_le_length (Nat.le_of_eq h8.symm),List.take_take,Nat.min_self]
 rw [e]
 exact ⟨rfl,(H6.se [0])⟩
theorem IA (g:Nat) (b:Int) (oa:aO) (out:List Int) (oc:Nat) (on:Nat) (fa:aO) (fc:Nat) (fn:Nat) (ba:aO) (bl:List Int) (bc:Nat) (bn:Nat) (ma:aO) (ms:List (LR Int)) (mc:Nat) (mn:Nat) (ta:aO) (td:List (Int×Int)) (tc:Nat) (wa:aO) (wt:List (LR Bool)) (wc:Nat) (wn:Nat) (w:World) (hp:Hp w [bm g #[.slice fa fn fc,.slice ba bn bc,.slice ma mn mc,.slice ta td.length tc,.slice wa wn wc] 247,aj (aw .i64) (.slice ba bn bc) 3 bl,aj aW (.slice ma mn mc) 25 ms,aC (bh (aw .i64) 3).row ms,aj kj (.slice ta td.length tc) 249 td,aj aW (.slice wa wn wc) 26 wt,aC (bh bu 4).row wt,aj (aw .i64) (.slice oa on oc) 3 out]) (hb:0≤b∧b<(ms.length:Int)) (hwm:wt.length=ms.length) (agy:∀i,i<wt.length→(wt.getD i ai).xs.length=fn) (DH:∀x,x∈out→0≤x∧x<(bl.length:Int)) (hms:ms.length≤1000000) (hfn:fn≤1000000) (htd:td.length≤10000000) (hlb:(ms.getD b.toNat ai).xs.length≤100000):
 Calls Tryz.prog 185 #[.pointer (some ⟨g,0,none⟩),ak b,.slice oa on oc] w (bj fun v w'=>∃Ww:List Int,∃VO,∃P3:List (LR Int),∃VN xp,∃SB:List (Int×Int),∃xo VC,∃Ax:List (LR Bool),∃VB,∃wn2:Nat,v= .tuple #[]∧aE w [bm g #[.slice fa fn fc,.slice ba bn bc,.slice ma mn mc,.slice ta td.length tc,.slice wa wn wc] 247,aj (aw .i64) (.slice ba bn bc) 3 bl,aj aW (.slice ma mn mc) 25 ms,aC (bh (aw .i64) 3).row ms,aj kj (.slice ta td.length tc) 249 td,aj aW (.slice wa wn wc) 26 wt,aC (bh bu 4).row wt,aj (aw .i64) (.slice oa on oc) 3 out] w' [bm g #[.slice fa fn fc,.slice ba bn bc,.slice VO P3.length VN,.slice xp SB.length xo,.slice VC wn2 VB] 247,aj (aw .i64) (.slice ba bn bc) 3 Ww,aj aW (.slice VO P3.length VN) 25 P3,aC (bh (aw .i64) 3).row P3,aj kj (.slice xp SB.length xo) 249 SB,aj aW (.slice VC wn2 VB) 26 Ax,aC (bh bu 4).row Ax]∧(Vo b.toNat out fn bl ms td wt Ww P3 SB Ax)):=by
 refine uZ hp Tryz.func185 (h:=fun H0=>?_)
 have hbw:b.toNat<wt.length:=by omega
 have Qy:on=out.length:=(H0.Kc 7 rfl).len
 have hmn:mn=ms.length:=(H0.Kc 2 rfl).len
 have hwn:wn=wt.length:=(H0.Kc 5 rfl).len
 have GR:=(H0.Kc 7 rfl).le
 refine aR 4 rfl (I2 (fun a:Int=>ak a) (fun a:Int=>ak a) Tryz.underlying258 rfl fun w1 u1=>?_)
 have H1:=H0.nw u1
 refine ae 0 (h:=da H1 (k:=fun w2 H2=>aU 0 (h:=jA H2 9 (k:=fun w3 H3=>?_))))
 have H4:=H3.ps [8,0,1,2,3,4,5,6,7,9]
 refine cY 11 [16,15,14,6,0,1,2] (fun B R L m e v=>∃k,∃gm:List (Int×Int),e=(16,bJ k)::B∧aA w L v ([eD (fun a:Int=>ak a) (fun a:Int=>ak a) w.heap.size gm]::R)∧(k≤out.length)∧(qY gm out k)∧m=out.length-k) (i:=⟨0,[],rfl,(H4.re rfl),oz,(by exact qY.start out),rfl⟩) (h:=?_)
 rintro m1 Γ1 w4 ⟨k,gm,rfl,H5,hk,hg,rfl⟩
 refine aL 6 (fun Ai=>?_) fun Ai=>?_
 refine ae 6 (h:=bU k (H5.rt 8) (k:=ae 0 (h:=cn (H5.rt 8) (k:=ae 4 (h:=aH (H5.b 9) (k:=?_))))))
 refine Cd 1 rfl (iT (ek:=(fun a:Int=>ak a)) (fW:=(fun a:Int=>ak a)) (out.getD k 0) 1 vZ Tryz.underlying258 rfl rfl rfl (H5.dH 0) fun w5 u4=>?_)
 have H6:=H5.un 0 u4
 exact ae 4 (h:=aX (k:=b6 2 (h:=by exact ⟨k+1,jN gm (out.getD k 0) 1,rfl,H6,oz,(by exact hg.step oz),rfl⟩)))
 have H7:Uu11:=H5.iw (f:=(bh (aw .i64) 3).row) ai 4 b.toNat rfl oz
 refine eI 3 H7 (h:=fun w6 H8=>cP 3 3 (H8.b 1) (D:=fun _ hC=>aH hC) (h:=cP 4 8 (H8.b 1) (D:=fun _ hC=>aH hC) (h:=bY 1 10 (H8.rt 3) (D:=fun _ hC=>bU b.toNat hC (cN:=oz)) (h:=bY 0 11 (H8.rt 3) (D:=fun _ hC=>cn hC) (h:=?_)))))
 refine mN 0 13 ⟨_,_,_,rfl,rfl,rfl,rfl,rfl,rfl⟩ (fun _=>od rfl rfl ⟨rfl,rfl⟩) (c7 0 12 (D:=aM (c:=rJ _ ((ms.getD b.toNat ai).xs) _ ((ms.getD b.toNat ai).n) w6 (H8.rt 10) oz) (k:=?_)))
 rintro _ w7 ⟨bN,cv,rfl,u5⟩
 have H9:=H8.ns u5
 refine ⟨⟨trivial,trivial,(H9.b 1),trivial,trivial,trivial,trivial⟩,?_⟩
 refine c7 0 14 (D:=aM (c:=F8 bN ((ms.getD b.toNat ai).xs) _ 198 [.pointer (some ⟨w1.heap.size,0,none⟩)] (fun x=>decide ((getM gm x).getD 0=1)) w7 (H9.dH 11) oz abu (fun w9 k9 x=>Hf x _ _ gm w9 (Qa H9 11 0 rfl rfl rfl k9) (H9.y8 11 9 rfl rfl rfl k9))) (k:=?_))
 rintro _ w8 ⟨rfl,u6⟩
 have bO:=H9.un 11 u6
 refine ⟨⟨trivial,(bO.b 1),trivial,trivial,trivial,trivial⟩,?_⟩
 refine bY 0 15 (bO.rt 3) (D:=fun _ hC=>bU b.toNat hC (cN:=oz)) (h:=c7 0 16 (D:=tH ⟨bN,(((ms.getD b.toNat ai).xs).filter (fun x=> !(fun x=>decide ((getM gm x).getD 0=1)) x)).length,cv,((ms.getD b.toNat ai).xs).filter (fun x=> !(fun x=>decide ((getM gm x).getD 0=1)) x)⟩ bO 3 (T:=aW) (k:=fun w9 bR=>?_)))
 have cm:Uu11x1:=(bR.jl (f:=(bh (aw .i64) 3).row) ⟨bN,(((ms.getD b.toNat ai).xs).filter (fun x=> !(fun x=>decide ((getM gm x).getD 0=1)) x)).length,cv,((ms.getD b.toNat ai).xs).filter (fun x=> !(fun x=>decide ((getM gm x).getD 0=1)) x)⟩ 4 11 b.toNat rfl rfl rfl oz).re rfl
 refine ⟨trivial,?_⟩
 have cW:aA _ _ _ [[_,_,_,_,_,_],[_],[_],[_],[_],[_],[]]:=aA.of (aE.j7 cm (l:=[1,2,3,4,6,7,0,5,8,9,10]) rfl rfl) rfl
 refine ae 6 (h:=aM (c:=FK _ oa out oc on fa fc fn ba bl bc bn ma (ms.set b.toNat ⟨bN,(((ms.getD b.toNat ai).xs).filter (fun x=> !(fun x=>decide ((getM gm x).getD 0=1)) x)).length,cv,((ms.getD b.toNat ai).xs).filter (fun x=> !(fun x=>decide ((getM gm x).getD 0=1)) x)⟩) mc mn (.slice ta td.length tc) wa wt wc wn w9 (cW.Bl 0 3 rfl rfl rfl) DH (by simp only [List.length_set];omega) oz oz) (k:=?_))
 rintro _ gK ⟨qX,kG,kF,j9,fp,j8,rfl,u8,q1⟩
 have cH:aA _ _ _ [[_,_,_,_,_,_],[_],[_],[],[_],[_],[]]:=(cW.gh (A':=[bm g #[.slice fa fn fc,.slice ba bn bc,.slice kG (((ms.set b.toNat ⟨bN,(((ms.getD b.toNat ai).xs).filter (fun x=> !(fun x=>decide ((getM gm x).getD 0=1)) x)).length,cv,((ms.getD b.toNat ai).xs).filter (fun x=> !(fun x=>decide ((getM gm x).getD 0=1)) x)⟩)++([⟨oa,on,oc,out⟩]:List (LR Int))).length) kF,(.slice ta td.length tc),.slice j9 fp.length j8] 247,aj (aw .i64) (.slice ba bn bc) 3 qX,aj aW (.slice kG (((ms.set b.toNat ⟨bN,(((ms.getD b.toNat ai).xs).filter (fun x=> !(fun x=>decide ((getM gm x).getD 0=1)) x)).length,cv,((ms.getD b.toNat ai).xs).filter (fun x=> !(fun x=>decide ((getM gm x).getD 0=1)) x)⟩)++([⟨oa,on,oc,out⟩]:List (LR Int))).length) kF) 25 ((ms.set b.toNat ⟨bN,(((ms.getD b.toNat ai).xs).filter (fun x=> !(fun x=>decide ((getM gm x).getD 0=1)) x)).length,cv,((ms.getD b.toNat ai).xs).filter (fun x=> !(fun x=>decide ((getM gm x).getD 0=1)) x)⟩)++([⟨oa,on,oc,out⟩]:List (LR Int))),aC (bh (aw .i64) 3).row ((ms.set b.toNat ⟨bN,(((ms.getD b.toNat ai).xs).filter (fun x=> !(fun x=>decide ((getM gm x).getD 0=1)) x)).length,cv,((ms.getD b.toNat ai).xs).filter (fun x=> !(fun x=>decide ((getM gm x).getD 0=1)) x)⟩)++([⟨oa,on,oc,out⟩]:List (LR Int))),aj aW (.slice j9 fp.length j8) 26 fp,aC (bh bu 4).row fp]) (B':=[]) (C:=[]) 0 3 rfl rfl rfl u8).re rfl
 refine ae 8 (h:=aH ((cH.dH 0).bm (List.mem_of_getElem? (i:=0) rfl)) (k:=cG 4 [47,46,9,0,1] (h:=?_)))
 have cI:aA _ _ _ [[_],[_],[_],[_],[_],[_],[_],[_],[],[_],[_],[]]:=cH.re rfl
 have cT:=cI.ps [0,4,5,7,1,2,3,6,8,9]
 refine cY 1 [47,46,9,0,1] (fun B R L m e v=>∃c,∃tq:List (Int×Int),∃wx wv,∃wq:List (LR Bool),e=(47,bJ c)::B∧aA w L v ([bm g #[.slice fa fn fc,.slice ba bn bc,.slice kG (((ms.set b.toNat ⟨bN,(((ms.getD b.toNat ai).xs).filter (fun x=> !(fun x=>decide ((getM gm x).getD 0=1)) x)).length,cv,((ms.getD b.toNat ai).xs).filter (fun x=> !(fun x=>decide ((getM gm x).getD 0=1)) x)⟩)++([⟨oa,on,oc,out⟩]:List (LR Int))).length) kF,.slice wx tq.length wv,.slice j9 fp.length j8] 247]::[aj aW (.slice j9 fp.length j8) 26 wq]::[aC (bh bu 4).row wq]::[aj kj (.slice wx tq.length wv) 249 tq]::R)∧(c≤fn)∧(SU b.toNat fn wt td wq tq c)∧m=fn-c) (i:=⟨0,td,ta,tc,fp,rfl,(cT.re rfl),om,(by exact SU.start agy hbw q1.wl q1.wo q1.wn),rfl⟩) (h:=?_)
 rintro m2 Γ2 iu ⟨c,tq,wx,wv,wq,rfl,dj,hc,hq,rfl⟩
 refine aL 6 (fun c97=>?_) fun c97=>?_
 have hqb:=hq.wr b.toNat oz
 have hqn:=hq.wr wt.length oz
 have IC:=hq.wl
 have hqt:=hq.tl
 have hun:=hq.un c (Nat.le_refl _) oz
 refine ae 15 (h:=aH (dj.b 0) (k:=ae 1 (h:=bU b.toNat (dj.rt 1) (cN:=oz) (k:=ae 0 (h:=cn (dj.rt 1) (k:=ae 1 (h:=bU c (show bH bu iu (.slice ((wq.getD b.toNat ai).a) ((wq.getD b.toNat ai).n) ((wq.getD b.toNat ai).c)) ((wq.getD b.toNat ai).xs) from (ga.own (dj.cB 2 rfl)).get ai b.toNat oz) (k:=ae 0 (h:=cn (show bH bu iu (.slice ((wq.getD b.toNat ai).a) ((wq.getD b.toNat ai).n) ((wq.getD b.toNat ai).c)) ((wq.getD b.toNat ai).xs) from (ga.own (dj.cB 2 rfl)).get ai b.toNat oz) (k:=cS 2 (fun Ah=>?_) fun Ah=>?_))))))))))
 refine ae 4 (h:=ck (k:=?_))
 have dY:aA _ _ _ [[_,_,_,_],[_],[_],[_],[_],[_],[_]]:=aA.of (aE.j7 dj (l:=[0,3,1,2,4,5,6,7,8,9]) rfl rfl) rfl
 refine ae 0 (h:=aM (c:=yy _ _ _ (.slice fa fn fc) (.slice ba bn bc) (.slice kG (((ms.set b.toNat ⟨bN,(((ms.getD b.toNat ai).xs).filter (fun x=> !(fun x=>decide ((getM gm x).getD 0=1)) x)).length,cv,((ms.getD b.toNat ai).xs).filter (fun x=> !(fun x=>decide ((getM gm x).getD 0=1)) x)⟩)++([⟨oa,on,oc,out⟩]:List (LR Int))).length) kF) wx tq wv j9 wq j8 fp.length iu (dY.dH 0) (by simp only [List.length_set];omega) (by simp only [List.length_set,Int.toNat_natCast];rw [←hwm];omega) oz) (k:=?_))
 rintro _ iW ⟨jd,jc,DP,rfl,u9,q2⟩
 have eJ:=dY.un 0 u9
 refine ae 4 (h:=aX (k:=?_))
 have dB:=eJ.sn
 exact b6 2 (h:=by exact ⟨c+1,tq++[((((ms.set b.toNat ⟨bN,(((ms.getD b.toNat ai).xs).filter (fun x=> !(fun x=>decide ((getM gm x).getD 0=1)) x)).length,cv,((ms.getD b.toNat ai).xs).filter (fun x=> !(fun x=>decide ((getM gm x).getD 0=1)) x)⟩).length:Nat):Int),((c:Nat):Int))],jd,jc,DP,rfl,(dB.pm [0,2,3,1,4,5,6,7,8,9] rfl rfl),om,(by first|(simp only [List.length_set,Int.toNat_natCast] at q2 ⊢;rw [←hwm] at q2 ⊢;exact hq.put hbw oz (.inr rfl) (fun _=>rfl) q2)|(simp only [List.length_set] at q3;rw [←hwm] at q3;have e8:oN=((oN.toNat:Nat):Int):=oz;have h7:=hq.put hbw oz oz (fun h9=>by have h8:=hun.trans h9;unfold bx at h8;exact absurd h8 Ah) q4;rw [←e8] at h7;exact h7)),rfl⟩)
 have gu:aA _ _ _ [[_,_,_,_,_],[_],[_],[_],[_],[_]]:=aA.of (aE.j7 dj (l:=[0,5,3,1,2,4,6,7,8,9]) rfl rfl) rfl
 refine ae 5 (h:=aM (c:=Bj _ _ _ _ (.slice fa fn fc) (.slice ba bn bc) kG ((ms.set b.toNat ⟨bN,(((ms.getD b.toNat ai).xs).filter (fun x=> !(fun x=>decide ((getM gm x).getD 0=1)) x)).length,cv,((ms.getD b.toNat ai).xs).filter (fun x=> !(fun x=>decide ((getM gm x).getD 0=1)) x)⟩)++([⟨oa,on,oc,out⟩]:List (LR Int))) kF (((ms.set b.toNat ⟨bN,(((ms.getD b.toNat ai).xs).filter (fun x=> !(fun x=>decide ((getM gm x).getD 0=1)) x)).length,cv,((ms.getD b.toNat ai).xs).filter (fun x=> !(fun x=>decide ((getM gm x).getD 0=1)) x)⟩)++([⟨oa,on,oc,out⟩]:List (LR Int))).length) wx tq wv j9 wq j8 fp.length iu (gu.dH 0) VE VE (by simp only [List.length_set,Int.toNat_natCast];rw [←hwm];omega) oz) (k:=?_))
 rintro _ iV ⟨r8,r7,aaA,oN,rfl,qZ,q3,q4⟩
 have gQ:=gu.un 0 qZ
 refine ae 4 (h:=aX (k:=?_))
 have jy:=gQ.sn
 exact b6 2 (h:=by exact ⟨c+1,tq++[(oN,((c:Nat):Int))],r8,r7,aaA,rfl,(jy.pm [0,3,4,2,5,1,6,7,8,9] rfl rfl),om,(by first|(simp only [List.length_set,Int.toNat_natCast] at q2 ⊢;rw [←hwm] at q2 ⊢;exact hq.put hbw oz (.inr rfl) (fun _=>rfl) q2)|(simp only [List.length_set] at q3;rw [←hwm] at q3;have e8:oN=((oN.toNat:Nat):Int):=oz;have h7:=hq.put hbw oz oz (fun h9=>by have h8:=hun.trans h9;unfold bx at h8;exact absurd h8 Ah) q4;rw [←e8] at h7;exact h7)),rfl⟩)
 refine GN 1 (h:=?_)
 obtain ⟨m1,m2,m3,m4⟩:=W5 (a:=bN) (n:=((ms.getD b.toNat ai).xs.filter (fun x=> !(fun x=>decide ((getM gm x).getD 0=1)) x)).length) (c:=cv) (oa:=oa) (on:=on) (oc:=oc) (show b.toNat<ms.length by omega) hg oz
 exact ⟨qX,kG,(ms.set b.toNat ⟨bN,(((ms.getD b.toNat ai).xs).filter (fun x=> !(fun x=>decide ((getM gm x).getD 0=1)) x)).length,cv,((ms.getD b.toNat ai).xs).filter (fun x=> !(fun x=>decide ((getM gm x).getD 0=1)) x)⟩)++([⟨oa,on,oc,out⟩]:List (LR Int)),kF,wx,tq,wv,j9,_,j8,fp.length,rfl,(dj.se [0,4,5,6,3,1,2]),(SU.fin hq oz m1 m2 m3 m4 q1.bll (by have h9:=q1.bv;simpa only [List.length_set] using h9))⟩
theorem MQ (g:Nat) (t:Int) (c:Int) (d:ar) (fa:aO) (F:List (LR (LR Int))) (fc:Nat) (fn:Nat) (ba:aO) (bl:List Int) (bc:Nat) (bn:Nat) (ma:aO) (ms:List (LR Int)) (mc:Nat) (mn:Nat) (ta:aO) (td:List (Int×Int)) (tc:Nat) (wa:aO) (wt:List (LR Bool)) (wc:Nat) (wn:Nat) (w:World) (hp:Hp w [bm g #[.slice fa fn fc,.slice ba bn bc,.slice ma mn mc,.slice ta td.length tc,.slice wa wn wc] 247,nu 198 25 fa fn fc F,aj (aw .i64) (.slice ba bn bc) 3 bl,aj aW (.slice ma mn mc) 25 ms,aC (bh (aw .i64) 3).row ms,aj kj (.slice ta td.length tc) 249 td,aj aW (.slice wa wn wc) 26 wt,aC (bh bu 4).row wt]) (cq:aN d=true) (hF:zi d F) (ht0:0≤t∧0≤c) (jR:lR d bl ms (td++[(((t.toNat:Nat):Int),((c.toNat:Nat):Int))]) wt (fun _ _ _=>False)) (htd:td.length≤4000000):
 Calls Tryz.prog 158 #[.pointer (some ⟨g,0,none⟩),.agg #[ak t,ak c]] w (bj fun v w'=>∃Ww:List Int,∃VO,∃P3:List (LR Int),∃VN,∃mn2:Nat,∃xp,∃SB:List (Int×Int),∃xo VC,∃Ax:List (LR Bool),∃VB,∃wn2:Nat,v= .tuple #[]∧aE w [bm g #[.slice fa fn fc,.slice ba bn bc,.slice ma mn mc,.slice ta td.length tc,.slice wa wn wc] 247,nu 198 25 fa fn fc F,aj (aw .i64) (.slice ba bn bc) 3 bl,aj aW (.slice ma mn mc) 25 ms,aC (bh (aw .i64) 3).row ms,aj kj (.slice ta td.length tc) 249 td,aj aW (.slice wa wn wc) 26 wt,aC (bh bu 4).row wt] w' [bm g #[.slice fa fn fc,.slice ba bn bc,.slice VO mn2 VN,.slice xp SB.length xo,.slice VC wn2 VB] 247,nu 198 25 fa fn fc F,aj (aw .i64) (.slice ba bn bc) 3 Ww,aj aW (.slice VO mn2 VN) 25 P3,aC (bh (aw .i64) 3).row P3,aj kj (.slice xp SB.length xo) 249 SB,aj aW (.slice VC wn2 VB) 26 Ax,aC (bh bu 4).row Ax]∧(lR d Ww P3 SB Ax (fun _ _ _=>False))∧(ms.length≤P3.length∧SB.length+ms.length*(bD d).length=td.length+P3.length*(bD d).length)):=by
 have wH:=bo.1 cq
 have htb:=jR.wait.bd (((t.toNat:Nat):Int),((c.toNat:Nat):Int)) (by simp)
 have KK:=(show t.toNat<ms.length by have h9:=htb.1;simp only at h9;omega)
 have Yd:=(show c.toNat<(bD d).length by have h9:=htb.2;simp only at h9;omega)
 have hwr:=jR.wait.row t.toNat KK
 have SK:=oY d
 have hFl:=hF.len
 have hmb:=jR.part.bound
 have hwl:=jR.wait.len
 have akb:=jR.part.len
 refine uZ hp Tryz.func158 (h:=fun H0=>ae 2 (h:=gI H0 (k:=fun w1 H1=>?_)))
 have H2:=H1.ps [6,7,0,1,2,3,4,5,8]
 refine mK 2 [3,0] 2 H2 (fun B R L e v=>∃w1:List (LR Bool),e=B∧aA w L v ([aj aW (.slice wa wn wc) 26 w1]::[aC (bh bu 4).row w1]::R)∧(lR d bl ms td w1 (GG d bl t.toNat c.toNat))) ?_ ?_
 refine eI 0 H2 (h:=fun w2 H3=>cP 3 3 (H3.b 2) (D:=fun _ hC=>aH hC) (h:=cP 1 5 (H3.b 8) (D:=fun _ hC=>aH hC) (h:=bY 0 6 (H3.rt 0) (D:=fun _ hC=>bU t.toNat hC (cN:=oz)) (h:=bY 0 7 (H3.rt 0) (D:=fun _ hC=>cn hC) (h:=cP 1 9 (H3.b 8) (D:=fun _ hC=>aH hC) (h:=bY 0 10 (show bH bu w2 (.slice ((wt.getD t.toNat ai).a) ((wt.getD t.toNat ai).n) ((wt.getD t.toNat ai).c)) ((wt.getD t.toNat ai).xs) from (ga.own (H3.cB 1 rfl)).get ai t.toNat oz) (D:=fun _ hC=>bU c.toNat hC (cN:=oz)) (h:=?_)))))))
 have H4:Uu10:=H3.iw (f:=(bh bu 4).row) ai 1 t.toNat rfl oz
 refine c7 0 11 (D:=tH false H4 9 (xs:=((wt.getD t.toNat ai).xs)) (k:=fun w3 H5=>?_))
 have H6:Uu9x1:=(H5.jl (f:=(bh bu 4).row) ⟨(wt.getD t.toNat ai).a,(wt.getD t.toNat ai).n,(wt.getD t.toNat ai).c,((wt.getD t.toNat ai).xs).set c.toNat false⟩ 1 9 t.toNat rfl rfl rfl oz).re rfl
 have H7:Uu9x1:=H6.xQ (((wt.getD t.toNat ai).xs).set c.toNat false) 0 t.toNat rfl oz
 refine ⟨trivial,?_⟩
 exact cy 1 (h:=by exact ⟨wt.set t.toNat ⟨(wt.getD t.toNat ai).a,(wt.getD t.toNat ai).n,(wt.getD t.toNat ai).c,((wt.getD t.toNat ai).xs).set c.toNat false⟩,rfl,(H7.re rfl),(by exact jR.take cq (tB.mk' oz oz))⟩)
 rintro Γ1 w4 ⟨w1,rfl,H8,agL⟩
 refine aR 7 rfl (qm (fun a:Int=>ak a) (fun p:LR Int=> .slice p.a p.n p.c) fun w5 u3=>?_)
 have H9:=H8.nw u3
 have X1:=bH.len (show bH (aw .i64) w5 (.slice ((ms.getD t.toNat ai).a) ((ms.getD t.toNat ai).n) ((ms.getD t.toNat ai).c)) ((ms.getD t.toNat ai).xs) from (ga.own (H9.cB 6 rfl)).get ai t.toNat oz)
 have KN:=jR.part.vX KK
 unfold fU at KN
 refine eI 5 H9 (h:=fun w6 bO=>cP 3 3 (bO.b 2) (D:=fun _ hC=>aH hC) (h:=cP 1 5 (bO.b 8) (D:=fun _ hC=>aH hC) (h:=bY 0 6 (bO.rt 5) (D:=fun _ hC=>bU t.toNat hC (cN:=oz)) (h:=bY 0 7 (bO.rt 5) (D:=fun _ hC=>cn hC) (h:=?_)))))
 have bR:=bO.nw (aE.Ky (aw .i64) 3 ms.length w6)
 have cm:=bR.nr (aw .i64) 3
 have cW:=cm.ps [9,10,11,0,1,2,3,4,5,6,7,8]
 refine cY 5 [34,4,33,32,5,3,0] (fun B R L m e v=>∃q,∃em:List Int,∃ea ec,∃mm:List (Int×LR Int),∃ps:List (LR Int),e=(34,bJ q)::(4,.slice ea em.length ec)::B∧aA w L v ([eD (fun a:Int=>ak a) (fun p:LR Int=> .slice p.a p.n p.c) w4.heap.size mm]::[aC CD.row ps]::[aj (aw .i64) (.slice ea em.length ec) 3 em]::R)∧(q≤(ms.getD t.toNat ai).xs.length)∧(NG ms.length bl (rV F c.toNat (fU ms t.toNat) q 0) ps em)∧(WJ mm ps)∧m=(ms.getD t.toNat ai).xs.length-q) (i:=⟨0,([]:List Int),none,0,[],List.replicate ms.length (ai:LR Int),rfl,(cW.re rfl),om,(by rw [rV.zero];exact NG.start _ _),(by exact WJ.start _),rfl⟩) (h:=?_)
 rintro m1 Γ2 w7 ⟨q,em,ea,ec,mm,ps,rfl,cH,hq,hP,hmm,rfl⟩
 have X1:=bH.len (show bH (aw .i64) w7 (.slice ((ms.getD t.toNat ai).a) ((ms.getD t.toNat ai).n) ((ms.getD t.toNat ai).c)) ((ms.getD t.toNat ai).xs) from (ga.own (cH.cB 9 rfl)).get ai t.toNat oz)
 have KN:=jR.part.vX KK
 unfold fU at KN
 refine aL 6 (fun aiN=>?_) fun aiN=>?_
 have X1:=bH.len (show bH (aw .i64) w7 (.slice ((ms.getD t.toNat ai).a) ((ms.getD t.toNat ai).n) ((ms.getD t.toNat ai).c)) ((ms.getD t.toNat ai).xs) from (ga.own (cH.cB 9 rfl)).get ai t.toNat oz)
 have KN:=jR.part.vX KK
 unfold fU at KN
 refine ae 6 (h:=bU q (show bH (aw .i64) w7 (.slice ((ms.getD t.toNat ai).a) ((ms.getD t.toNat ai).n) ((ms.getD t.toNat ai).c)) ((ms.getD t.toNat ai).xs) from (ga.own (cH.cB 9 rfl)).get ai t.toNat oz) (k:=ae 0 (h:=cn (show bH (aw .i64) w7 (.slice ((ms.getD t.toNat ai).a) ((ms.getD t.toNat ai).n) ((ms.getD t.toNat ai).c)) ((ms.getD t.toNat ai).xs) from (ga.own (cH.cB 9 rfl)).get ai t.toNat oz) (k:=?_))))
 obtain ⟨ii,KR,QE,_⟩:=(jR.part.mem t.toNat KK ((ms.getD t.toNat ai).xs.getD q 0)).1 (au (by show q<(ms.getD t.toNat ai).xs.length;omega))
 have hFr:=hF.row c.toNat oz
 have Uj:=bH.len (show bH (aw .i64) w7 (.slice (((F.getD c.toNat ai).xs.getD ((ms.getD t.toNat ai).xs.getD q 0).toNat ai).a) (((F.getD c.toNat ai).xs.getD ((ms.getD t.toNat ai).xs.getD q 0).toNat ai).n) (((F.getD c.toNat ai).xs.getD ((ms.getD t.toNat ai).xs.getD q 0).toNat ai).c)) (((F.getD c.toNat ai).xs.getD ((ms.getD t.toNat ai).xs.getD q 0).toNat ai).xs) from (lK (cH.cB 6 rfl) (show (F.getD c.toNat ai)∈F from au oz)).get ai (((ms.getD t.toNat ai).xs.getD q 0).toNat) oz)
 have IH:=hF.mem c.toNat oz ii KR
 have sX:=cM (hF.nd c.toNat oz ii KR) (m:=(List.range d.acc.length).map fun i:Nat=>(i:Int)) (fun x hx=>by obtain ⟨j,hj,e,_⟩:=(IH x).1 hx;exact List.mem_map.2 ⟨j,List.mem_range.2 hj,e.symm⟩)
 have QK:tL F c.toNat ((ii:Nat):Int)=((F.getD c.toNat ai).xs.getD ((ms.getD t.toNat ai).xs.getD q 0).toNat ai).xs:=by unfold tL;rw [←QE]
 rw [QK] at sX IH
 simp only [List.length_map,List.length_range] at sX
 refine eI 4 cH (h:=fun w8 cI=>cP 3 3 (cI.b 5) (D:=fun _ hC=>aH hC) (h:=cP 1 5 (cI.b 11) (D:=fun _ hC=>aH hC) (h:=bY 0 6 (yH (cI.dH 6)) (D:=fun _ hC=>bU c.toNat hC (cN:=oz)) (h:=bY 0 7 (yH (cI.dH 6)) (D:=fun _ hC=>cn hC) (h:=bY 1 9 (show bH aW w8 (.slice ((F.getD c.toNat ai).a) ((F.getD c.toNat ai).n) ((F.getD c.toNat ai).c)) ((F.getD c.toNat ai).xs) from (FO (cI.dH 6)).get ai c.toNat oz) (D:=fun _ hC=>bU ((((ms.getD t.toNat ai).xs).getD q 0).toNat) hC (cN:=oz)) (h:=bY 0 10 (show bH aW w8 (.slice ((F.getD c.toNat ai).a) ((F.getD c.toNat ai).n) ((F.getD c.toNat ai).c)) ((F.getD c.toNat ai).xs) from (FO (cI.dH 6)).get ai c.toNat oz) (D:=fun _ hC=>cn hC) (h:=cY 5 [50,4,49,48,34,33,32,5,3,0] (fun B R L m e v=>∃r,∃en:List Int,∃na nc,∃mo:List (Int×LR Int),∃pr:List (LR Int),e=(50,bJ r)::(4,.slice na en.length nc)::B∧aA w L v ([eD (fun a:Int=>ak a) (fun p:LR Int=> .slice p.a p.n p.c) w4.heap.size mo]::[aC CD.row pr]::[aj (aw .i64) (.slice na en.length nc) 3 en]::R)∧(r≤((F.getD c.toNat ai).xs.getD ((ms.getD t.toNat ai).xs.getD q 0).toNat ai).xs.length)∧(NG ms.length bl (rV F c.toNat (fU ms t.toNat) q r) pr en)∧(WJ mo pr)∧m=((F.getD c.toNat ai).xs.getD ((ms.getD t.toNat ai).xs.getD q 0).toNat ai).xs.length-r) (i:=⟨0,em,ea,ec,mm,ps,rfl,cI,om,(by exact hP),(by exact hmm),rfl⟩) (h:=?_))))))))
 rintro m2 Γ3 w9 ⟨r,en,na,nc,mo,pr,rfl,cT,hr,K0,MW,rfl⟩
 obtain ⟨ii,KR,QE,_⟩:=(jR.part.mem t.toNat KK ((ms.getD t.toNat ai).xs.getD q 0)).1 (au (by show q<(ms.getD t.toNat ai).xs.length;omega))
 have hFr:=hF.row c.toNat oz
 have Uj:=bH.len (show bH (aw .i64) w9 (.slice (((F.getD c.toNat ai).xs.getD ((ms.getD t.toNat ai).xs.getD q 0).toNat ai).a) (((F.getD c.toNat ai).xs.getD ((ms.getD t.toNat ai).xs.getD q 0).toNat ai).n) (((F.getD c.toNat ai).xs.getD ((ms.getD t.toNat ai).xs.getD q 0).toNat ai).c)) (((F.getD c.toNat ai).xs.getD ((ms.getD t.toNat ai).xs.getD q 0).toNat ai).xs) from (lK (cT.cB 6 rfl) (show (F.getD c.toNat ai)∈F from au oz)).get ai (((ms.getD t.toNat ai).xs.getD q 0).toNat) oz)
 have IH:=hF.mem c.toNat oz ii KR
 have sX:=cM (hF.nd c.toNat oz ii KR) (m:=(List.range d.acc.length).map fun i:Nat=>(i:Int)) (fun x hx=>by obtain ⟨j,hj,e,_⟩:=(IH x).1 hx;exact List.mem_map.2 ⟨j,List.mem_range.2 hj,e.symm⟩)
 have QK:tL F c.toNat ((ii:Nat):Int)=((F.getD c.toNat ai).xs.getD ((ms.getD t.toNat ai).xs.getD q 0).toNat ai).xs:=by unfold tL;rw [←QE]
 rw [QK] at sX IH
 simp only [List.length_map,List.length_range] at sX
 refine aL 6 (fun aiM=>?_) fun aiM=>?_
 obtain ⟨ii,KR,QE,_⟩:=(jR.part.mem t.toNat KK ((ms.getD t.toNat ai).xs.getD q 0)).1 (au (by show q<(ms.getD t.toNat ai).xs.length;omega))
 have hFr:=hF.row c.toNat oz
 have Uj:=bH.len (show bH (aw .i64) w9 (.slice (((F.getD c.toNat ai).xs.getD ((ms.getD t.toNat ai).xs.getD q 0).toNat ai).a) (((F.getD c.toNat ai).xs.getD ((ms.getD t.toNat ai).xs.getD q 0).toNat ai).n) (((F.getD c.toNat ai).xs.getD ((ms.getD t.toNat ai).xs.getD q 0).toNat ai).c)) (((F.getD c.toNat ai).xs.getD ((ms.getD t.toNat ai).xs.getD q 0).toNat ai).xs) from (lK (cT.cB 6 rfl) (show (F.getD c.toNat ai)∈F from au oz)).get ai (((ms.getD t.toNat ai).xs.getD q 0).toNat) oz)
 have IH:=hF.mem c.toNat oz ii KR
 have sX:=cM (hF.nd c.toNat oz ii KR) (m:=(List.range d.acc.length).map fun i:Nat=>(i:Int)) (fun x hx=>by obtain ⟨j,hj,e,_⟩:=(IH x).1 hx;exact List.mem_map.2 ⟨j,List.mem_range.2 hj,e.symm⟩)
 have QK:tL F c.toNat ((ii:Nat):Int)=((F.getD c.toNat ai).xs.getD ((ms.getD t.toNat ai).xs.getD q 0).toNat ai).xs:=by unfold tL;rw [←QE]
 rw [QK] at sX IH
 simp only [List.length_map,List.length_range] at sX
 refine ae 6 (h:=bU r (show bH (aw .i64) w9 (.slice ((((F.getD c.toNat ai).xs).getD ((((ms.getD t.toNat ai).xs).getD q 0).toNat) ai).a) ((((F.getD c.toNat ai).xs).getD ((((ms.getD t.toNat ai).xs).getD q 0).toNat) ai).n) ((((F.getD c.toNat ai).xs).getD ((((ms.getD t.toNat ai).xs).getD q 0).toNat) ai).c)) ((((F.getD c.toNat ai).xs).getD ((((ms.getD t.toNat ai).xs).getD q 0).toNat) ai).xs) from (lK (cT.dH 6) (show (F.getD c.toNat ai)∈F from au oz)).get ai ((((ms.getD t.toNat ai).xs).getD q 0).toNat) oz) (k:=ae 0 (h:=cn (show bH (aw .i64) w9 (.slice ((((F.getD c.toNat ai).xs).getD ((((ms.getD t.toNat ai).xs).getD q 0).toNat) ai).a) ((((F.getD c.toNat ai).xs).getD ((((ms.getD t.toNat ai).xs).getD q 0).toNat) ai).n) ((((F.getD c.toNat ai).xs).getD ((((ms.getD t.toNat ai).xs).getD q 0).toNat) ai).c)) ((((F.getD c.toNat ai).xs).getD ((((ms.getD t.toNat ai).xs).getD q 0).toNat) ai).xs) from (lK (cT.dH 6) (show (F.getD c.toNat ai)∈F from au oz)).get ai ((((ms.getD t.toNat ai).xs).getD q 0).toNat) oz) (k:=?_))))
 obtain ⟨jj,hjj,hje,_⟩:=(IH (((F.getD c.toNat ai).xs.getD ((ms.getD t.toNat ai).xs.getD q 0).toNat ai).xs.getD r 0)).1 (au oz)
 refine ae 8 (h:=aH (cT.b 5) (k:=ae 1 (h:=bU ((((((F.getD c.toNat ai).xs).getD ((((ms.getD t.toNat ai).xs).getD q 0).toNat) ai).xs).getD r 0).toNat) (cT.rt 7) (cN:=oz) (k:=ae 0 (h:=cn (cT.rt 7) (k:=?_))))))
 have hbr:=jR.part.k8 jj hjj
 obtain ⟨bb,M4⟩:∃bb:Nat,bl.getD (((F.getD c.toNat ai).xs.getD ((ms.getD t.toNat ai).xs.getD q 0).toNat ai).xs.getD r 0).toNat 0=((bb:Nat):Int):=⟨(bl.getD (((F.getD c.toNat ai).xs.getD ((ms.getD t.toNat ai).xs.getD q 0).toNat ai).xs.getD r 0).toNat 0).toNat,by rw [hje,Int.toNat_natCast];omega⟩
 have v8:bb<ms.length:=by rw [hje,Int.toNat_natCast] at M4;omega
 have MT:=K0.len
 have al3:=bH.len (show bH (aw .i64) w9 (.slice ((pr.getD bb ai).a) ((pr.getD bb ai).n) ((pr.getD bb ai).c)) ((pr.getD bb ai).xs) from (ga.own (cT.cB 1 rfl)).get ai bb oz)
 have hLl:=Lq hF jR.part cq (show c.toNat<F.length by omega) KK q r
 have amK:=K0.vX
 refine aR 8 rfl (pG (ek:=(fun a:Int=>ak a)) (fW:=(fun p:LR Int=> .slice p.a p.n p.c)) (bl.getD ((((((F.getD c.toNat ai).xs).getD ((((ms.getD t.toNat ai).xs).getD q 0).toNat) ai).xs).getD r 0).toNat) 0) ai (pr.getD bb ai) (by rw [M4];exact MW bb oz) vZ Tryz.underlying277 Hd rfl rfl (cT.po 0 rfl) (aL 4 (fun Zr=>?_) fun Zr=>?_))
 refine ae 3 (h:=db (aw .i64) [bl.getD ((((((F.getD c.toNat ai).xs).getD ((((ms.getD t.toNat ai).xs).getD q 0).toNat) ai).xs).getD r 0).toNat) 0] cT (k:=fun gK dj=>ae 0 (h:=fT dj 2 (dj.rt 12) (hb:=dk) (gk:=dk) (k:=fun a1 c1 iu aja=>?_))))
 have dY:=(aja.drop 12).no
 refine cG 3 [4,10,9,50,49,48,34,33,32,5,3,0] (h:=?_)
 have agI:(pr.getD bb ai).xs.length≤4097*4096:=by rw [K0.val bb v8];exact Nat.le_trans (List.length_filter_le _ _) hLl
 refine aR 5 rfl (pG (ek:=(fun a:Int=>ak a)) (fW:=(fun p:LR Int=> .slice p.a p.n p.c)) (bl.getD ((((((F.getD c.toNat ai).xs).getD ((((ms.getD t.toNat ai).xs).getD q 0).toNat) ai).xs).getD r 0).toNat) 0) ai (pr.getD bb ai) (by rw [M4];exact MW bb oz) vZ Tryz.underlying277 Hd rfl rfl (dY.po 0 rfl) (ae 1 (h:=db (aw .i64) [((((F.getD c.toNat ai).xs).getD ((((ms.getD t.toNat ai).xs).getD q 0).toNat) ai).xs).getD r 0] dY (k:=fun iW eJ=>?_))))
 have dB:aA _ _ _ [[_],[_],[_],[_],[_],[_],[_],[_],[_],[_],[_],[_],[],[_],[_]]:=eJ.iw (f:=CD.row) ai 1 bb rfl oz
 refine aR 0 rfl (dQ (T:=(aw .i64)) (xs:=((pr.getD bb ai).xs)) (ys:=[((((F.getD c.toNat ai).xs).getD ((((ms.getD t.toNat ai).xs).getD q 0).toNat) ai).xs).getD r 0]) rfl Tryz.underlying25 zM rfl rfl rfl (dB.rt 14).len (dB.ow 14) (dB.rt 13) dk dk fun a2 c2 iV u7=>?_)
 have gu:=((dB.un 14 u7).drop 13).no
 refine Cd 0 rfl (iT (ek:=(fun a:Int=>ak a)) (fW:=(fun p:LR Int=> .slice p.a p.n p.c)) (bl.getD ((((((F.getD c.toNat ai).xs).getD ((((ms.getD t.toNat ai).xs).getD q 0).toNat) ai).xs).getD r 0).toNat) 0) ⟨a2,(((pr.getD bb ai).xs)++[((((F.getD c.toNat ai).xs).getD ((((ms.getD t.toNat ai).xs).getD q 0).toNat) ai).xs).getD r 0]).length,c2,((pr.getD bb ai).xs)++[((((F.getD c.toNat ai).xs).getD ((((ms.getD t.toNat ai).xs).getD q 0).toNat) ai).xs).getD r 0]⟩ vZ Tryz.underlying277 rfl rfl rfl (gu.dH 0) fun lT u8=>?_)
 have gQ:=gu.un 0 u8
 have jy:Uu12x3:=(gQ.jl (f:=CD.row) (⟨a2,(((pr.getD bb ai).xs)++[((((F.getD c.toNat ai).xs).getD ((((ms.getD t.toNat ai).xs).getD q 0).toNat) ai).xs).getD r 0]).length,c2,((pr.getD bb ai).xs)++[((((F.getD c.toNat ai).xs).getD ((((ms.getD t.toNat ai).xs).getD q 0).toNat) ai).xs).getD r 0]⟩:LR Int) 1 14 bb rfl rfl rfl oz).re rfl
 obtain ⟨ii,KR,QE,_⟩:=(jR.part.mem t.toNat KK ((ms.getD t.toNat ai).xs.getD q 0)).1 (au (by show q<(ms.getD t.toNat ai).xs.length;omega))
 have hFr:=hF.row c.toNat oz
 have Uj:=bH.len (show bH (aw .i64) lT (.slice (((F.getD c.toNat ai).xs.getD ((ms.getD t.toNat ai).xs.getD q 0).toNat ai).a) (((F.getD c.toNat ai).xs.getD ((ms.getD t.toNat ai).xs.getD q 0).toNat ai).n) (((F.getD c.toNat ai).xs.getD ((ms.getD t.toNat ai).xs.getD q 0).toNat ai).c)) (((F.getD c.toNat ai).xs.getD ((ms.getD t.toNat ai).xs.getD q 0).toNat ai).xs) from (lK (jy.cB 6 rfl) (show (F.getD c.toNat ai)∈F from au oz)).get ai (((ms.getD t.toNat ai).xs.getD q 0).toNat) oz)
 have IH:=hF.mem c.toNat oz ii KR
 have sX:=cM (hF.nd c.toNat oz ii KR) (m:=(List.range d.acc.length).map fun i:Nat=>(i:Int)) (fun x hx=>by obtain ⟨j,hj,e,_⟩:=(IH x).1 hx;exact List.mem_map.2 ⟨j,List.mem_range.2 hj,e.symm⟩)
 have QK:tL F c.toNat ((ii:Nat):Int)=((F.getD c.toNat ai).xs.getD ((ms.getD t.toNat ai).xs.getD q 0).toNat ai).xs:=by unfold tL;rw [←QE]
 rw [QK] at sX IH
 simp only [List.length_map,List.length_range] at sX
 exact ae 4 (h:=aX (k:=b6 2 (h:=by exact ⟨r+1,en++[bl.getD ((((((F.getD c.toNat ai).xs).getD ((((ms.getD t.toNat ai).xs).getD q 0).toNat) ai).xs).getD r 0).toNat) 0],a1,c1,jN mo (bl.getD ((((((F.getD c.toNat ai).xs).getD ((((ms.getD t.toNat ai).xs).getD q 0).toNat) ai).xs).getD r 0).toNat) 0) ⟨a2,(((pr.getD bb ai).xs)++[((((F.getD c.toNat ai).xs).getD ((((ms.getD t.toNat ai).xs).getD q 0).toNat) ai).xs).getD r 0]).length,c2,((pr.getD bb ai).xs)++[((((F.getD c.toNat ai).xs).getD ((((ms.getD t.toNat ai).xs).getD q 0).toNat) ai).xs).getD r 0]⟩,pr.set bb ⟨a2,(((pr.getD bb ai).xs)++[((((F.getD c.toNat ai).xs).getD ((((ms.getD t.toNat ai).xs).getD q 0).toNat) ai).xs).getD r 0]).length,c2,((pr.getD bb ai).xs)++[((((F.getD c.toNat ai).xs).getD ((((ms.getD t.toNat ai).xs).getD q 0).toNat) ai).xs).getD r 0]⟩,rfl,(jy.re rfl),om,(by first|(have h8:(pr.getD bb ai).xs=[]:=List.length_eq_zero_iff.1 oz;rw [rV.step (by show r<((F.getD c.toNat ai).xs.getD ((ms.getD t.toNat ai).xs.getD q 0).toNat ai).xs.length;omega),M4];exact K0.put (x:=(((F.getD c.toNat ai).xs.getD ((ms.getD t.toNat ai).xs.getD q 0).toNat ai).xs.getD r 0)) M4 v8 _ (by rw [if_pos h8]))|(have h8:¬(pr.getD bb ai).xs=[]:=(fun e=>by have h7:=congrArg List.length e;simp only [List.length_nil] at h7;omega);rw [rV.step (by show r<((F.getD c.toNat ai).xs.getD ((ms.getD t.toNat ai).xs.getD q 0).toNat ai).xs.length;omega)];exact K0.put (x:=(((F.getD c.toNat ai).xs.getD ((ms.getD t.toNat ai).xs.getD q 0).toNat ai).xs.getD r 0)) M4 v8 _ (by rw [if_neg h8]))),(by rw [M4];exact MW.put oz),rfl⟩)))
 have agI:(pr.getD bb ai).xs.length≤4097*4096:=by rw [K0.val bb v8];exact Nat.le_trans (List.length_filter_le _ _) hLl
 refine aR 7 rfl (pG (ek:=(fun a:Int=>ak a)) (fW:=(fun p:LR Int=> .slice p.a p.n p.c)) (bl.getD ((((((F.getD c.toNat ai).xs).getD ((((ms.getD t.toNat ai).xs).getD q 0).toNat) ai).xs).getD r 0).toNat) 0) ai (pr.getD bb ai) (by rw [M4];exact MW bb oz) vZ Tryz.underlying277 Hd rfl rfl (cT.po 0 rfl) (ae 1 (h:=db (aw .i64) [((((F.getD c.toNat ai).xs).getD ((((ms.getD t.toNat ai).xs).getD q 0).toNat) ai).xs).getD r 0] cT (k:=fun qx lv=>?_))))
 have j5:Uu14:=lv.iw (f:=CD.row) ai 1 bb rfl oz
 refine aR 0 rfl (dQ (T:=(aw .i64)) (xs:=((pr.getD bb ai).xs)) (ys:=[((((F.getD c.toNat ai).xs).getD ((((ms.getD t.toNat ai).xs).getD q 0).toNat) ai).xs).getD r 0]) rfl Tryz.underlying25 zM rfl rfl rfl (j5.rt 13).len (j5.ow 13) (j5.rt 12) dk dk fun a3 c3 qw qZ=>?_)
 have kY:=((j5.un 13 qZ).drop 12).no
 refine Cd 0 rfl (iT (ek:=(fun a:Int=>ak a)) (fW:=(fun p:LR Int=> .slice p.a p.n p.c)) (bl.getD ((((((F.getD c.toNat ai).xs).getD ((((ms.getD t.toNat ai).xs).getD q 0).toNat) ai).xs).getD r 0).toNat) 0) ⟨a3,(((pr.getD bb ai).xs)++[((((F.getD c.toNat ai).xs).getD ((((ms.getD t.toNat ai).xs).getD q 0).toNat) ai).xs).getD r 0]).length,c3,((pr.getD bb ai).xs)++[((((F.getD c.toNat ai).xs).getD ((((ms.getD t.toNat ai).xs).getD q 0).toNat) ai).xs).getD r 0]⟩ vZ Tryz.underlying277 rfl rfl rfl (kY.dH 0) fun uW zJ=>?_)
 have ja:=kY.un 0 zJ
 have lX:Uu12x2:=(ja.jl (f:=CD.row) (⟨a3,(((pr.getD bb ai).xs)++[((((F.getD c.toNat ai).xs).getD ((((ms.getD t.toNat ai).xs).getD q 0).toNat) ai).xs).getD r 0]).length,c3,((pr.getD bb ai).xs)++[((((F.getD c.toNat ai).xs).getD ((((ms.getD t.toNat ai).xs).getD q 0).toNat) ai).xs).getD r 0]⟩:LR Int) 1 13 bb rfl rfl rfl oz).re rfl
 refine cG 3 [50,4,49,48,34,33,32,5,3,0] (h:=?_)
 obtain ⟨ii,KR,QE,_⟩:=(jR.part.mem t.toNat KK ((ms.getD t.toNat ai).xs.getD q 0)).1 (au (by show q<(ms.getD t.toNat ai).xs.length;omega))
 have hFr:=hF.row c.toNat oz
 have Uj:=bH.len (show bH (aw .i64) uW (.slice (((F.getD c.toNat ai).xs.getD ((ms.getD t.toNat ai).xs.getD q 0).toNat ai).a) (((F.getD c.toNat ai).xs.getD ((ms.getD t.toNat ai).xs.getD q 0).toNat ai).n) (((F.getD c.toNat ai).xs.getD ((ms.getD t.toNat ai).xs.getD q 0).toNat ai).c)) (((F.getD c.toNat ai).xs.getD ((ms.getD t.toNat ai).xs.getD q 0).toNat ai).xs) from (lK (lX.cB 6 rfl) (show (F.getD c.toNat ai)∈F from au oz)).get ai (((ms.getD t.toNat ai).xs.getD q 0).toNat) oz)
 have IH:=hF.mem c.toNat oz ii KR
 have sX:=cM (hF.nd c.toNat oz ii KR) (m:=(List.range d.acc.length).map fun i:Nat=>(i:Int)) (fun x hx=>by obtain ⟨j,hj,e,_⟩:=(IH x).1 hx;exact List.mem_map.2 ⟨j,List.mem_range.2 hj,e.symm⟩)
 have QK:tL F c.toNat ((ii:Nat):Int)=((F.getD c.toNat ai).xs.getD ((ms.getD t.toNat ai).xs.getD q 0).toNat ai).xs:=by unfold tL;rw [←QE]
 rw [QK] at sX IH
 simp only [List.length_map,List.length_range] at sX
 exact ae 1 (h:=aX (k:=b6 2 (h:=by exact ⟨r+1,en,na,nc,jN mo (bl.getD ((((((F.getD c.toNat ai).xs).getD ((((ms.getD t.toNat ai).xs).getD q 0).toNat) ai).xs).getD r 0).toNat) 0) ⟨a3,(((pr.getD bb ai).xs)++[((((F.getD c.toNat ai).xs).getD ((((ms.getD t.toNat ai).xs).getD q 0).toNat) ai).xs).getD r 0]).length,c3,((pr.getD bb ai).xs)++[((((F.getD c.toNat ai).xs).getD ((((ms.getD t.toNat ai).xs).getD q 0).toNat) ai).xs).getD r 0]⟩,pr.set bb ⟨a3,(((pr.getD bb ai).xs)++[((((F.getD c.toNat ai).xs).getD ((((ms.getD t.toNat ai).xs).getD q 0).toNat) ai).xs).getD r 0]).length,c3,((pr.getD bb ai).xs)++[((((F.getD c.toNat ai).xs).getD ((((ms.getD t.toNat ai).xs).getD q 0).toNat) ai).xs).getD r 0]⟩,rfl,(lX.re rfl),om,(by first|(have h8:(pr.getD bb ai).xs=[]:=List.length_eq_zero_iff.1 oz;rw [rV.step (by show r<((F.getD c.toNat ai).xs.getD ((ms.getD t.toNat ai).xs.getD q 0).toNat ai).xs.length;omega),M4];exact K0.put (x:=(((F.getD c.toNat ai).xs.getD ((ms.getD t.toNat ai).xs.getD q 0).toNat ai).xs.getD r 0)) M4 v8 _ (by rw [if_pos h8]))|(have h8:¬(pr.getD bb ai).xs=[]:=(fun e=>by have h7:=congrArg List.length e;simp only [List.length_nil] at h7;omega);rw [rV.step (by show r<((F.getD c.toNat ai).xs.getD ((ms.getD t.toNat ai).xs.getD q 0).toNat ai).xs.length;omega)];exact K0.put (x:=(((F.getD c.toNat ai).xs.getD ((ms.getD t.toNat ai).xs.getD q 0).toNat ai).xs.getD r 0)) M4 v8 _ (by rw [if_neg h8]))),(by rw [M4];exact MW.put oz),rfl⟩)))
 have X1:=bH.len (show bH (aw .i64) w9 (.slice ((ms.getD t.toNat ai).a) ((ms.getD t.toNat ai).n) ((ms.getD t.toNat ai).c)) ((ms.getD t.toNat ai).xs) from (ga.own (cT.cB 9 rfl)).get ai t.toNat oz)
 have KN:=jR.part.vX KK
 unfold fU at KN
 exact ae 4 (h:=aX (k:=b6 2 (h:=by exact ⟨q+1,en,na,nc,mo,pr,rfl,cT,om,(by rw [rV.next (by show q<(ms.getD t.toNat ai).xs.length;omega) (by show¬r<((F.getD c.toNat ai).xs.getD ((ms.getD t.toNat ai).xs.getD q 0).toNat ai).xs.length;omega)];exact K0),(by exact MW),rfl⟩)))
 have oV:=cH.sn
 have hqe:¬q<(fU ms t.toNat).length:=(by show¬q<(ms.getD t.toNat ai).xs.length;omega)
 have hL:∀x,x∈(rV F c.toNat (fU ms t.toNat) q 0)↔∃i:Nat,i<d.acc.length∧x=(i:Int)∧bl.getD (dl d c.toNat i) 0=((t.toNat:Nat):Int):=by rw [rV.all hqe];exact TE hF jR.part oz KK cq
 have Wk:(rV F c.toNat (fU ms t.toNat) q 0).Nodup:=by rw [rV.all hqe];exact Mh hF jR.part oz KK
 have amJ:fn=F.length:=bH.len (yH (oV.cB 6 rfl))
 have SL:∀j,j<em.length→0≤em.getD j 0:=fun j hj=>by obtain ⟨x,hx,e⟩:=(hP.mt _).1 (au (d:=0) hj);obtain ⟨i,hi,rfl,_⟩:=(hL x).1 hx;have h9:=jR.part.k8 i hi;rw [Int.toNat_natCast] at e;omega
 have amL:=hP.vX
 have am4:=Lq hF jR.part cq (show c.toNat<F.length by omega) KK q 0
 have hLi:∀x,x∈(rV F c.toNat (fU ms t.toNat) q 0)→∃i:Nat,i<d.acc.length∧x=(i:Int):=fun x hx=>by obtain ⟨i,hi,e,_⟩:=(hL x).1 hx;exact ⟨i,hi,e⟩
 have mJ:=oV.ps [1,3,4,5,7,8,9,10,0,2,6,11]
 refine cY 10 [82,81,80,5,0] (fun B R L m e v=>∃q2,∃pq:List (LR Int),∃bq:List Int,∃zZ,∃mq:List (LR Int),∃zY,∃zX:Nat,∃wx,∃DX:List (Int×Int),∃wv zn,∃wq:List (LR Bool),∃zm,∃zl:Nat,e=(82,bJ q2)::B∧aA w L v ([aC CD.row pq]::[aj aW (.slice zn zl zm) 26 wq]::[aC (bh bu 4).row wq]::[bm g #[.slice fa fn fc,.slice ba bn bc,.slice zZ zX zY,.slice wx DX.length wv,.slice zn zl zm] 247]::[aj (aw .i64) (.slice ba bn bc) 3 bq]::[aj aW (.slice zZ zX zY) 25 mq]::[aC (bh (aw .i64) 3).row mq]::[aj kj (.slice wx DX.length wv) 249 DX]::R)∧(q2≤em.length)∧(nE d bl ms td (rV F c.toNat (fU ms t.toNat) q 0) em (GG d bl t.toNat c.toNat) bq mq DX wq q2)∧(pq.length=ms.length∧∀j,q2≤j→j<em.length→pq.getD (em.getD j 0).toNat ai=ps.getD (em.getD j 0).toNat ai)∧m=em.length-q2) (i:=⟨0,ps,bl,ma,ms,mc,mn,ta,td,tc,wa,w1,wc,wn,rfl,mJ,om,(by exact nE.start agL hP.mt),(by exact ⟨hP.len,fun j _ _=>rfl⟩),rfl⟩) (h:=?_)
 rintro m3 Γ4 zI ⟨q2,pq,bq,zZ,mq,zY,zX,wx,DX,wv,zn,wq,zm,zl,rfl,mI,zx,hT,V3,rfl⟩
 refine aL 6 (fun oo=>?_) fun oo=>?_
 refine ae 6 (h:=bU q2 (mI.rt 9) (k:=ae 0 (h:=cn (mI.rt 9) (k:=?_))))
 obtain ⟨b2,zB⟩:∃b2:Nat,em.getD q2 0=((b2:Nat):Int):=(by obtain ⟨x,hx,e⟩:=(hP.mt _).1 (au (d:=0) (show q2<em.length by omega));obtain ⟨i,hi,rfl,_⟩:=(hL x).1 hx;have h9:=jR.part.k8 i hi;rw [Int.toNat_natCast] at e;exact ⟨(em.getD q2 0).toNat,by omega⟩)
 have FG:b2<ms.length:=by obtain ⟨x,hx,e⟩:=(hP.mt _).1 (au (d:=0) (show q2<em.length by omega));obtain ⟨i,hi,rfl,_⟩:=(hL x).1 hx;have h9:=jR.part.k8 i hi;rw [Int.toNat_natCast] at e;omega
 have Uo:(em.getD q2 0).toNat=b2:=by omega
 have Fu:pq.getD b2 ai=ps.getD b2 ai:=by have h9:=V3.2 q2 (Nat.le_refl _) oz;rwa [Uo] at h9
 have ab6:=V3.1
 have hmp:(getM mm ((b2:Nat):Int)).getD ai=pq.getD b2 ai:=(hmm b2 (by rw [hP.len];exact FG)).trans Fu.symm
 have hmq:=hT.U1.1
 have ame:=hT.jR.part.bound
 have al4:=bH.len (show bH (aw .i64) zI (.slice ((pq.getD b2 ai).a) ((pq.getD b2 ai).n) ((pq.getD b2 ai).c)) ((pq.getD b2 ai).xs) from (ga.own (mI.cB 0 rfl)).get ai b2 oz)
 have amg:=bH.len (show bH (aw .i64) zI (.slice ((mq.getD b2 ai).a) ((mq.getD b2 ai).n) ((mq.getD b2 ai).c)) ((mq.getD b2 ai).xs) from (ga.own (mI.cB 6 rfl)).get ai b2 oz)
 refine eI 4 mI (h:=fun zo mH=>?_)
 refine afD 2 2 (fun w'=>pP w' (fun a:Int=>ak a) (fun p:LR Int=> .slice p.a p.n p.c) w4.heap.size mm) (mH.po 8 rfl) ⟨_,_,_,rfl,rfl,rfl,rfl,rfl,rfl⟩ (fun _ hC=>pG (ek:=(fun a:Int=>ak a)) (fW:=(fun p:LR Int=> .slice p.a p.n p.c)) (em.getD q2 0) ai (pq.getD b2 ai) (by rw [zB];exact hmp) vZ Tryz.underlying277 Hd rfl rfl hC ⟨rfl,rfl⟩) (cP 4 7 (mH.b 3) (D:=fun _ hC=>aH hC) (h:=bY 1 9 (mH.rt 5) (D:=fun _ hC=>bU b2 hC (cN:=(by first|exact zB|omega)) (hj:=(by first|exact zB|omega))) (h:=bY 0 10 (mH.rt 5) (D:=fun _ hC=>cn hC (hj:=(by first|exact zB|omega))) (h:=aL 4 (fun Dd=>?_) fun Dd=>?_))))
 have oM:Uu13:=mH.iw (f:=CD.row) ai 0 b2 rfl oz
 have Ud:=Cq hT jR.part (fun x hx=>by obtain ⟨i,hi,e,_⟩:=(hL x).1 hx;exact ⟨i,hi,e⟩) hP oz zB FG
 have hqm:=hT.jR.part.vX (b:=b2) oz
 have hqw:=hT.jR.wait.len
 have alX:=hT.jR.part.len
 have aj8:mq.length*(bD d).length≤4096*259:=Nat.mul_le_mul oz oz
 have amR:=hT.U1.2
 refine aR 5 rfl (pG (ek:=(fun a:Int=>ak a)) (fW:=(fun p:LR Int=> .slice p.a p.n p.c)) (em.getD q2 0) ai (pq.getD b2 ai) (by rw [zB];exact hmp) vZ Tryz.underlying277 Hd rfl rfl (oM.po 8 rfl) ?_)
 have qO:aA _ _ _ [[_,_,_,_,_,_,_],[_],[_],[_],[_],[_],[_]]:=aA.of (aE.j7 oM (l:=[3,4,5,6,7,1,2,0,8,9,10,11,12]) rfl rfl) rfl
 refine ae 0 (h:=aM (c:=IA _ _ _ ((pq.getD b2 ai).xs) _ ((pq.getD b2 ai).n) fa fc fn ba bq bc bn zZ mq zY zX wx DX wv zn wq zm zl zo (qO.Bl 0 6 rfl rfl rfl) oz hqw (fun i hi=>by rw [hT.jR.wait.row i oz];omega) (fun x hx=>by rw [Fu] at hx;obtain ⟨i,hi,e,_⟩:=(hT.jR.part.mem b2 oz x).1 ((Ud.1 x).1 hx).2;omega) oz oz oz (by rw [Uo];unfold fU at hqm;omega)) (k:=?_))
 rintro _ DV ⟨qX,kG,vm,kF,jd,AK,jc,j9,fp,j8,DS,rfl,xh,q1⟩
 have tN:aA _ _ _ [[_,_,_,_,_,_,_],[_],[_],[_],[_],[_],[]]:=(qO.gh (A':=[bm g #[.slice fa fn fc,.slice ba bn bc,.slice kG vm.length kF,.slice jd AK.length jc,.slice j9 DS j8] 247,aj (aw .i64) (.slice ba bn bc) 3 qX,aj aW (.slice kG vm.length kF) 25 vm,aC (bh (aw .i64) 3).row vm,aj kj (.slice jd AK.length jc) 249 AK,aj aW (.slice j9 DS j8) 26 fp,aC (bh bu 4).row fp]) (B':=[]) (C:=[]) 0 6 rfl rfl rfl xh).re rfl
 refine ae 4 (h:=aX (k:=?_))
 have zG:=tN.nr (aw .i64) 3
 have xe:aA _ _ _ [[_,_,_,_,_,_,_],[_],[_],[_],[_],[_],[],[]]:=(zG.jl (f:=CD.row) (ai:LR Int) 1 7 b2 rfl rfl rfl oz).re rfl
 have uT:Uu12x2:=xe.re rfl
 exact b6 2 (h:=by exact ⟨q2+1,pq.set b2 ai,qX,kG,vm,kF,vm.length,jd,AK,jc,j9,fp,j8,DS,rfl,(uT.pm [7,5,6,0,1,2,3,4,8,9,10,11] rfl rfl),om,(by first|(rw [Uo,Fu,show fn=(bD d).length by omega] at q1;exact hT.split cq jR.part jR.snd hL Yd Wk hP oz zB FG (by show (ps.getD b2 ai).xs.length<(mq.getD b2 ai).xs.length;rw [←Fu];omega) q1)|exact hT.skip jR.part hLi Wk hP oz zB FG (by show¬(ps.getD b2 ai).xs.length<(mq.getD b2 ai).xs.length;rw [←Fu];omega)),(by first|exact Kf hP.nd SL V3 oz zB FG|exact ⟨ab6,fun j h1 h2=>V3.2 j oz h2⟩),rfl⟩)
 refine ae 4 (h:=aX (k:=?_))
 have wh:=mH.sn
 exact b6 2 (h:=by exact ⟨q2+1,pq,bq,zZ,mq,zY,zX,wx,DX,wv,zn,wq,zm,zl,rfl,wh,om,(by first|(rw [Uo,Fu,show fn=(bD d).length by omega] at q1;exact hT.split cq jR.part jR.snd hL Yd Wk hP oz zB FG (by show (ps.getD b2 ai).xs.length<(mq.getD b2 ai).xs.length;rw [←Fu];omega) q1)|exact hT.skip jR.part hLi Wk hP oz zB FG (by show¬(ps.getD b2 ai).xs.length<(mq.getD b2 ai).xs.length;rw [←Fu];omega)),(by first|exact Kf hP.nd SL V3 oz zB FG|exact ⟨ab6,fun j h1 h2=>V3.2 j oz h2⟩),rfl⟩)
 exact GN 1 (h:=⟨bq,zZ,mq,zY,zX,wx,DX,wv,zn,wq,zm,zl,rfl,(mI.se [3,10,4,5,6,7,1,2]),(hT.fin oz hL),hT.U1⟩)
theorem Mw (d:ar) (fN:aO) (fR:aO) (gq:aO) (fM:Nat) (fQ:Nat) (gp:Nat) (w:World) (gS:cd (aw .i64) w fN d.cls fM) (iy:cd (aw .i64) w fR d.next fQ) (iM:cd bu w gq d.acc gp) (hl:d.cls.length≤1000):
 Calls Tryz.prog 182 #[.agg #[aG fN d.cls fM,ak d.width,ak d.start,aG fR d.next fQ,aG gq d.acc gp]] w (bj fun v w'=>∃a2,∃c2:Nat,v=aG a2 (bD d) c2∧aE w [] w' [cg (aw .i64) 3 a2 (bD d) c2]):=by
 have iH:=gS.le
 have iG:=iy.le
 have iJ:=iM.le
 refine cL Tryz.func182 (h:=fun H0=>ae 2 (h:=gI H0 (k:=fun w1 H1=>ae 6 (h:=aH (H1.b 0) (k:=ae 0 (h:=aM (c:=rJ fN d.cls fM d.cls.length w1 (gS.at H1) oz) (k:=?_)))))))
 rintro _ w2 ⟨bN,cv,rfl,u2⟩
 have H2:=H1.ns u2
 refine ae 6 (h:=aM (c:=Eg bN d.cls _ d.cls.length w2 (H2.dH 1) rfl oz) (k:=?_))
 rintro _ w3 ⟨rfl,u3⟩
 have H3:=H2.un 1 u3
 refine ae 5 (h:=aM (c:=vI bN (o4 d.cls) _ d.cls.length w3 (H3.dH 1) ((k5 _).symm) (by rw [k5];omega)) (k:=?_))
 rintro _ w4 ⟨rfl,u4⟩
 have H4:=H3.un 1 u4
 exact bE 4 (h:=⟨bN,cv,rfl,(by have hh:=H4.iz 1;exact hh)⟩)
theorem EL (d:ar) (fN:aO) (fR:aO) (gq:aO) (fM:Nat) (fQ:Nat) (gp:Nat) (w:World) (gS:bH (aw .i64) w (.slice fN d.cls.length fM) d.cls) (iy:bH (aw .i64) w (.slice fR d.next.length fQ) d.next) (iM:bH bu w (.slice gq d.acc.length gp) d.acc) (cq:aN d=true):
 Calls Tryz.prog 157 #[.agg #[.slice fN d.cls.length fM,ak d.width,ak d.start,.slice fR d.next.length fQ,.slice gq d.acc.length gp]] w (bj fun v w'=>∃g:Nat,∃fa,∃F:List (LR (LR Int)),∃fc ba,∃bl:List Int,∃bc,∃bn:Nat,∃ma,∃ms:List (LR Int),∃mc,∃mn:Nat,∃ta,∃td:List (Int×Int),∃tc wa,∃wt:List (LR Bool),∃wc,∃wn:Nat,v= .pointer (some ⟨g,0,none⟩)∧aE w [] w' [bm g #[.slice fa F.length fc,.slice ba bn bc,.slice ma mn mc,.slice ta td.length tc,.slice wa wn wc] 247,nu 198 25 fa F.length fc F,aj (aw .i64) (.slice ba bn bc) 3 bl,aj aW (.slice ma mn mc) 25 ms,aC (bh (aw .i64) 3).row ms,aj kj (.slice ta td.length tc) 249 td,aj aW (.slice wa wn wc) 26 wt,aC (bh bu 4).row wt]∧(zi d F)∧(lR d bl ms td wt (fun _ _ _=>False))∧(td.length≤(bD d).length)):=by
 have wH:=bo.1 cq
 have SK:=oY d
 have iH:=gS.le
 have iG:=iy.le
 have iJ:=iM.le
 refine cL Tryz.func157 (h:=fun H0=>ae 2 (h:=gI H0 (k:=fun w1 H1=>ae 6 (h:=aH (H1.b 0) (k:=?_)))))
 refine aR 7 rfl (iE d.acc.length (0:Int) (T:=(aw .i64)) rfl Tryz.underlying25 zM rfl rfl rfl rfl oz oz fun w2 u2=>?_)
 have H2:=H1.nw u2
 refine ae 0 (h:=ck (k:=ae 0 (h:=gI H2 (k:=fun w3 H3=>ae 6 (h:=b8 (H3.b 0) (k:=ae 0 (h:=aM (c:=Mw d fN fR gq fM fQ gp w3 (gS.at H3) (iy.at H3) (iM.at H3) oz) (k:=?_))))))))
 rintro _ w4 ⟨bN,cv,rfl,u4⟩
 have H4:=H3.ns u4
 have H5:=H4.nr (aW:Ty (LR (LR Int))) 198
 have H6:=H5.sn
 have H7:aA w [] w4 [[bm w.heap.size #[.slice fN d.cls.length fM,ak d.width,ak d.start,.slice fR d.next.length fQ,.slice gq d.acc.length gp] 28],[aj (aw .i64) (.slice (some ⟨w1.heap.size,0,none⟩) ((List.replicate d.acc.length (0:Int)).length) d.acc.length) 3 (List.replicate d.acc.length (0:Int))],[bm w2.heap.size #[.slice none (([]:List (LR (LR Int))).length) 0,.slice (some ⟨w1.heap.size,0,none⟩) ((List.replicate d.acc.length (0:Int)).length) d.acc.length,.slice none 0 0,.slice none 0 0,.slice none 0 0] 247],[aj (aw .i64) (.slice bN ((bD d).length) cv) 3 (bD d)],[aj aW (.slice none (([]:List (LR (LR Int))).length) 0) 198 ([]:List (LR (LR Int)))],[aC (bh aW 25).row ([]:List (LR (LR Int)))]]:=H6.im (aE.kR (bh aW 25).row w4)
 have H8:aA w [] w4 [[bm w.heap.size #[.slice fN d.cls.length fM,ak d.width,ak d.start,.slice fR d.next.length fQ,.slice gq d.acc.length gp] 28],[aj (aw .i64) (.slice (some ⟨w1.heap.size,0,none⟩) ((List.replicate d.acc.length (0:Int)).length) d.acc.length) 3 (List.replicate d.acc.length (0:Int))],[bm w2.heap.size #[.slice none (([]:List (LR (LR Int))).length) 0,.slice (some ⟨w1.heap.size,0,none⟩) ((List.replicate d.acc.length (0:Int)).length) d.acc.length,.slice none 0 0,.slice none 0 0,.slice none 0 0] 247],[aj (aw .i64) (.slice bN ((bD d).length) cv) 3 (bD d)],[aj aW (.slice none (([]:List (LR (LR Int))).length) 0) 198 ([]:List (LR (LR Int)))],[aC (bh aW 25).row ([]:List (LR (LR Int)))],[aC T3.row (([]:List (LR (LR Int))).flatMap LR.xs)]]:=H7.im (aE.kR T3.row w4)
 have H9:=H8.ps [2,4,5,6,0,1,3]
 refine cY 5 [27,26,25,4,3,2,1] (fun B R L m e v=>∃k,∃Fq:List (LR (LR Int)),∃GZ GY,e=(27,bJ k)::B∧aA w L v ([bm w2.heap.size #[.slice GZ Fq.length GY,.slice (some ⟨w1.heap.size,0,none⟩) ((List.replicate d.acc.length (0:Int)).length) d.acc.length,.slice none 0 0,.slice none 0 0,.slice none 0 0] 247]::[aj aW (.slice GZ Fq.length GY) 198 Fq]::[aC (bh aW 25).row Fq]::[aC T3.row (Fq.flatMap LR.xs)]::R)∧(k≤(bD d).length)∧(tC d Fq k)∧m=(bD d).length-k) (i:=⟨0,([]:List (LR (LR Int))),none,0,rfl,H9,om,(by exact tC.start d),rfl⟩) (h:=?_)
 rintro m1 Γ1 w5 ⟨k,Fq,GZ,GY,rfl,bO,hk,hf,rfl⟩
 refine aL 6 (fun c35=>?_) fun c35=>?_
 refine ae 6 (h:=bU k (bO.rt 6) (k:=ae 0 (h:=cn (bO.rt 6) (k:=?_))))
 refine aR 6 rfl (iE d.acc.length (ai:LR Int) (T:=aW) rfl Tryz.underlying198 Hd rfl rfl rfl rfl oz oz fun w6 u5=>?_)
 have bR:=bO.nw u5
 have cm:=bR.nw (aE.Ky (aw .i64) 3 d.acc.length w6)
 have cW:=cm.ps [7,8,0,1,2,3,4,5,6]
 refine cY 11 [34,33,7,6,27,26,25,4,3,2,1] (fun B R L m e v=>∃i,∃ps:List (LR Int),e=(34,bJ i)::B∧aA w L v ([aj aW (.slice (some ⟨w5.heap.size,0,none⟩) ((List.replicate d.acc.length (ai:LR Int)).length) d.acc.length) 25 ps]::[aC (bh (aw .i64) 3).row ps]::R)∧(i≤d.acc.length)∧(WI d k ps i)∧m=d.acc.length-i) (i:=⟨0,List.replicate d.acc.length (ai:LR Int),rfl,cW,om,(by exact WI.start d k),rfl⟩) (h:=?_)
 rintro m2 Γ2 w7 ⟨i,ps,rfl,cH,hi,hp,rfl⟩
 refine aL 6 (fun Zi=>?_) fun Zi=>?_
 have KU:=wu cq (x:=(bD d).getD k 0) (au oz)
 have Wc:=dS (q:=(i:Int)) cq oz oz KU.1 KU.2
 refine ae 13 (h:=aH (cH.b 6) (k:=ae 2 (h:=aH (cH.b 6) (k:=ae 0 (h:=GP (k:=ae 1 (h:=aX (k:=ae 0 (h:=bU (((((i:Nat):Int)*d.width)+((bD d).getD k 0)).toNat) (iy.at cH) (cN:=oz) (k:=ae 0 (h:=cn (iy.at cH) (k:=?_))))))))))))
 have hdl:=me cq (k:=k) (i:=i) oz oz
 have Yb:=hdl.1
 have ahc:=hdl.2
 have MT:=hp.len
 have DF:=hp.size (dl d k i) Yb
 refine ae 8 (h:=bU (dl d k i) (cH.rt 0) (cN:=oz) (k:=ae 0 (h:=cn (cH.rt 0) (k:=ae 1 (h:=db (aw .i64) [((i:Nat):Int)] cH (k:=fun w8 cI=>?_))))))
 have cT:Uu11:=cI.iw (f:=(bh (aw .i64) 3).row) ai 1 (dl d k i) rfl oz
 refine aR 0 rfl (dQ (T:=(aw .i64)) (xs:=((ps.getD (dl d k i) ai).xs)) (ys:=[((i:Nat):Int)]) rfl Tryz.underlying25 zM rfl rfl rfl (cT.rt 10).len (cT.ow 10) (cT.rt 9) dk dk fun a1 c1 w9 u7=>?_)
 have dj:=((cT.un 10 u7).drop 9).no
 refine ae 0 (h:=bU (dl d k i) (dj.rt 0) (cN:=oz) (k:=aU 0 (h:=tH ⟨a1,(((ps.getD (dl d k i) ai).xs)++[((i:Nat):Int)]).length,c1,((ps.getD (dl d k i) ai).xs)++[((i:Nat):Int)]⟩ dj 0 (T:=aW) (k:=fun gK dY=>?_))))
 have eJ:Uu9x2:=(dY.jl (f:=(bh (aw .i64) 3).row) ⟨a1,(((ps.getD (dl d k i) ai).xs)++[((i:Nat):Int)]).length,c1,((ps.getD (dl d k i) ai).xs)++[((i:Nat):Int)]⟩ 1 10 (dl d k i) rfl rfl rfl oz).re rfl
 exact cG 3 [34,33,7,6,27,26,25,4,3,2,1] (h:=ae 1 (h:=aX (k:=b6 2 (h:=by exact ⟨i+1,ps.set (dl d k i) ⟨a1,(((ps.getD (dl d k i) ai).xs)++[((i:Nat):Int)]).length,c1,((ps.getD (dl d k i) ai).xs)++[((i:Nat):Int)]⟩,rfl,(eJ.re rfl),om,(by exact hp.step rfl Yb),rfl⟩))))
 have zA:=hf.len
 refine ae 7 (h:=aH (cH.b 2) (k:=ae 1 (h:=db aW ([⟨(some ⟨w5.heap.size,0,none⟩),(List.replicate d.acc.length (ai:LR Int)).length,d.acc.length,ps⟩]:List (LR (LR Int))) cH (k:=fun iu dB=>ae 0 (h:=fT dB 3 (dB.rt 9) (hb:=dk) (gk:=dk) (k:=fun a2 c2 iW ZV=>?_))))))
 have gu:=(ZV.drop 9).no
 have gQ:aA _ _ _ [[],[_],[_],[_],[_],[_],[_],[_],[_],[]]:=(aA.kC (f:=(bh aW 25).row) (⟨(some ⟨w5.heap.size,0,none⟩),(List.replicate d.acc.length (ai:LR Int)).length,d.acc.length,ps⟩:(LR (LR Int))) gu 4 0 rfl rfl rfl).re rfl
 refine aU 2 (h:=jA gQ 2 (k:=fun iV jy=>ae 4 (h:=aX (k:=?_))))
 have lv:aA _ _ _ [[],[],[_],[_],[_],[_],[_],[_],[_],[]]:=(jy.Qp (f:=T3.row) (⟨(some ⟨w5.heap.size,0,none⟩),(List.replicate d.acc.length (ai:LR Int)).length,d.acc.length,ps⟩:LR (LR Int)) 5 1 rfl rfl rfl).re rfl
 exact b6 2 (h:=by exact ⟨k+1,Fq++([⟨(some ⟨w5.heap.size,0,none⟩),(List.replicate d.acc.length (ai:LR Int)).length,d.acc.length,ps⟩]:List (LR (LR Int))),a2,c2,rfl,(lv.re rfl),om,(by exact hf.step hp oz),rfl⟩)
 have j5:=bO.sn
 have kY:aA _ _ _ [[_,_,_],[_],[_],[_],[_]]:=aA.of (aE.j7 j5 (l:=[1,2,3,0,4,5,6]) rfl rfl) rfl
 have ja:Uu5:=kY.PE 0 rfl
 have zA:=hf.len
 have hFP:=hf.fin oz
 refine ae 12 (h:=aH (ja.b 2) (k:=?_))
 have lX:=ja.nr (aw .i64) 3
 have oV:=lX.nr (aw .i64) 3
 have mJ:=oV.ps [5,6,0,1,2,3,4]
 refine cY 5 [72,11,10,71,70,4,2] (fun B R L m e v=>∃i,∃ys:List Int,∃ya yc,∃ns:List Int,∃na nc,e=(72,bJ i)::(11,.slice na ns.length nc)::(10,.slice ya ys.length yc)::B∧aA w L v ([aj (aw .i64) (.slice ya ys.length yc) 3 ys]::[aj (aw .i64) (.slice na ns.length nc) 3 ns]::R)∧(i≤d.acc.length)∧(ys=ij d true i)∧(ns=ij d false i)∧m=d.acc.length-i) (i:=⟨0,([]:List Int),none,0,([]:List Int),none,0,rfl,mJ,om,rfl,rfl,rfl⟩) (h:=?_)
 rintro m3 Γ3 lT ⟨Iy,ys,ya,yc,ns,na,nc,rfl,mI,hi,VW,NW,rfl⟩
 have hyl:ys.length≤Iy:=by rw [VW];exact sh d true Iy
 have MV:ns.length≤Iy:=by rw [NW];exact sh d false Iy
 refine aL 6 (fun Zh=>?_) fun Zh=>?_
 refine ae 7 (h:=bU Iy (iM.at mI) (k:=ae 0 (h:=cn (iM.at mI) (k:=cS 9 (fun DK=>?_) fun DK=>?_))))
 have hyl:=sh d true Iy
 refine ae 3 (h:=db (aw .i64) [((Iy:Nat):Int)] mI (k:=fun qx mH=>ae 0 (h:=fT mH 0 (mH.rt 7) (hb:=dk) (gk:=dk) (k:=fun a3 c3 qw ai2=>?_))))
 have oM:=(ai2.drop 7).no
 exact ae 5 (h:=aX (k:=b6 2 (h:=by exact ⟨Iy+1,ys++[((Iy:Nat):Int)],a3,c3,ns,na,nc,rfl,(oM.re rfl),om,(by first|(rw [VW];exact sg DK)|(rw [VW];exact wB DK)),(by first|(rw [NW];exact sg (by simpa using DK))|(rw [NW];exact wB (by rw [DK];decide))),rfl⟩)))
 have MV:=sh d false Iy
 refine ae 3 (h:=db (aw .i64) [((Iy:Nat):Int)] mI (k:=fun uW qO=>ae 0 (h:=fT qO 1 (qO.rt 7) (hb:=dk) (gk:=dk) (k:=fun a4 c4 zI ai1=>?_))))
 have tN:=(ai1.drop 7).no
 exact ae 5 (h:=aX (k:=b6 2 (h:=by exact ⟨Iy+1,ys,ya,yc,ns++[((Iy:Nat):Int)],a4,c4,rfl,(tN.re rfl),om,(by first|(rw [VW];exact sg DK)|(rw [VW];exact wB DK)),(by first|(rw [NW];exact sg (by simpa using DK))|(rw [NW];exact wB (by rw [DK];decide))),rfl⟩)))
 refine ae 7 (h:=db aW ([⟨na,ns.length,nc,ns⟩,⟨ya,ys.length,yc,ys⟩]:List (LR Int)) mI (k:=fun zo zG=>?_))
 have xe:=zG.nr (aW:Ty (LR Int)) 25
 have uT:=xe.nr kj 249
 have wh:=uT.nr (aW:Ty (LR Bool)) 26
 have tM:=wh.sn
 have DO:aA w [] zo [[aj (aw .i64) (.slice ya ys.length yc) 3 ys],[aj (aw .i64) (.slice na ns.length nc) 3 ns],[nu 198 25 GZ Fq.length GY Fq],[bm w2.heap.size #[.slice GZ Fq.length GY,.slice (some ⟨w1.heap.size,0,none⟩) ((List.replicate d.acc.length (0:Int)).length) d.acc.length,.slice none (([]:List (LR Int)).length) 0,.slice none (([]:List (Int×Int)).length) 0,.slice none (([]:List (LR Bool)).length) 0] 247],[bm w.heap.size #[.slice fN d.cls.length fM,ak d.width,ak d.start,.slice fR d.next.length fQ,.slice gq d.acc.length gp] 28],[aj (aw .i64) (.slice (some ⟨w1.heap.size,0,none⟩) ((List.replicate d.acc.length (0:Int)).length) d.acc.length) 3 (List.replicate d.acc.length (0:Int))],[aj (aw .i64) (.slice bN ((bD d).length) cv) 3 (bD d)],[aj aW (.slice (some ⟨lT.heap.size,0,none⟩) (([⟨na,ns.length,nc,ns⟩,⟨ya,ys.length,yc,ys⟩]:List (LR Int)).length) (([⟨na,ns.length,nc,ns⟩,⟨ya,ys.length,yc,ys⟩]:List (LR Int)).length)) 25 ([⟨na,ns.length,nc,ns⟩,⟨ya,ys.length,yc,ys⟩]:List (LR Int))],[aj aW (.slice none (([]:List (LR Int)).length) 0) 25 ([]:List (LR Int))],[aj kj (.slice none (([]:List (Int×Int)).length) 0) 249 ([]:List (Int×Int))],[aj aW (.slice none (([]:List (LR Bool)).length) 0) 26 ([]:List (LR Bool))],[aC (bh (aw .i64) 3).row ([]:List (LR Int))]]:=tM.im (aE.kR (bh (aw .i64) 3).row zo)
 have Lt:aA w [] zo [[aj (aw .i64) (.slice ya ys.length yc) 3 ys],[aj (aw .i64) (.slice na ns.length nc) 3 ns],[nu 198 25 GZ Fq.length GY Fq],[bm w2.heap.size #[.slice GZ Fq.length GY,.slice (some ⟨w1.heap.size,0,none⟩) ((List.replicate d.acc.length (0:Int)).length) d.acc.length,.slice none (([]:List (LR Int)).length) 0,.slice none (([]:List (Int×Int)).length) 0,.slice none (([]:List (LR Bool)).length) 0] 247],[bm w.heap.size #[.slice fN d.cls.length fM,ak d.width,ak d.start,.slice fR d.next.length fQ,.slice gq d.acc.length gp] 28],[aj (aw .i64) (.slice (some ⟨w1.heap.size,0,none⟩) ((List.replicate d.acc.length (0:Int)).length) d.acc.length) 3 (List.replicate d.acc.length (0:Int))],[aj (aw .i64) (.slice bN ((bD d).length) cv) 3 (bD d)],[aj aW (.slice (some ⟨lT.heap.size,0,none⟩) (([⟨na,ns.length,nc,ns⟩,⟨ya,ys.length,yc,ys⟩]:List (LR Int)).length) (([⟨na,ns.length,nc,ns⟩,⟨ya,ys.length,yc,ys⟩]:List (LR Int)).length)) 25 ([⟨na,ns.length,nc,ns⟩,⟨ya,ys.length,yc,ys⟩]:List (LR Int))],[aj aW (.slice none (([]:List (LR Int)).length) 0) 25 ([]:List (LR Int))],[aj kj (.slice none (([]:List (Int×Int)).length) 0) 249 ([]:List (Int×Int))],[aj aW (.slice none (([]:List (LR Bool)).length) 0) 26 ([]:List (LR Bool))],[aC (bh (aw .i64) 3).row ([]:List (LR Int))],[aC (bh bu 4).row ([]:List (LR Bool))]]:=DO.im (aE.kR (bh bu 4).row zo)
 have JL:aA w [] zo [[aj (aw .i64) (.slice ya ys.length yc) 3 ys],[aj (aw .i64) (.slice na ns.length nc) 3 ns],[nu 198 25 GZ Fq.length GY Fq],[bm w2.heap.size #[.slice GZ Fq.length GY,.slice (some ⟨w1.heap.size,0,none⟩) ((List.replicate d.acc.length (0:Int)).length) d.acc.length,.slice none (([]:List (LR Int)).length) 0,.slice none (([]:List (Int×Int)).length) 0,.slice none (([]:List (LR Bool)).length) 0] 247],[bm w.heap.size #[.slice fN d.cls.length fM,ak d.width,ak d.start,.slice fR d.next.length fQ,.slice gq d.acc.length gp] 28],[aj (aw .i64) (.slice (some ⟨w1.heap.size,0,none⟩) ((List.replicate d.acc.length (0:Int)).length) d.acc.length) 3 (List.replicate d.acc.length (0:Int))],[aj (aw .i64) (.slice bN ((bD d).length) cv) 3 (bD d)],[aj aW (.slice (some ⟨lT.heap.size,0,none⟩) (([⟨na,ns.length,nc,ns⟩,⟨ya,ys.length,yc,ys⟩]:List (LR Int)).length) (([⟨na,ns.length,nc,ns⟩,⟨ya,ys.length,yc,ys⟩]:List (LR Int)).length)) 25 ([⟨na,ns.length,nc,ns⟩,⟨ya,ys.length,yc,ys⟩]:List (LR Int))],[aj aW (.slice none (([]:List (LR Int)).length) 0) 25 ([]:List (LR Int))],[aj kj (.slice none (([]:List (Int×Int)).length) 0) 249 ([]:List (Int×Int))],[aj aW (.slice none (([]:List (LR Bool)).length) 0) 26 ([]:List (LR Bool))],[aC (bh (aw .i64) 3).row ([]:List (LR Int))],[aC (bh bu 4).row ([]:List (LR Bool))],[aC Ix.row ([]:List (LR Int))]]:=Lt.im (aE.kR Ix.row zo)
 have JK:aA _ _ _ [[_],[],[_],[_],[_],[_],[_],[_],[_],[_],[_],[_],[_],[_]]:=(aA.kC (f:=Ix.row) (⟨na,ns.length,nc,ns⟩:LR Int) JL 13 1 rfl rfl rfl).re rfl
 have JJ:aA _ _ _ [[],[],[_],[_],[_],[_],[_],[_],[_],[_],[_],[_],[_],[_]]:=(aA.kC (f:=Ix.row) (⟨ya,ys.length,yc,ys⟩:LR Int) JK 13 0 rfl rfl rfl).re rfl
 have JI:aA _ _ _ [[],[],[_],[_],[_],[_],[_],[_],[_],[_],[_],[_],[_],[_]]:=JJ.re rfl
 have N5:=JI.ps [1,3,6,8,9,10,11,0,2,4,5,7]
 refine cY 5 [91,90,89,4,2] (fun B R L m e v=>∃kz,∃zq:List (LR Int),∃bq:List Int,∃zZ,∃mq:List (LR Int),∃zY,∃zX:Nat,∃zn,∃wq:List (LR Bool),∃zm,∃zl:Nat,e=(91,bJ kz)::B∧aA w L v ([bm w2.heap.size #[.slice GZ Fq.length GY,.slice (some ⟨w1.heap.size,0,none⟩) ((List.replicate d.acc.length (0:Int)).length) d.acc.length,.slice zZ zX zY,.slice none (([]:List (Int×Int)).length) 0,.slice zn zl zm] 247]::[aj (aw .i64) (.slice (some ⟨w1.heap.size,0,none⟩) ((List.replicate d.acc.length (0:Int)).length) d.acc.length) 3 bq]::[aj aW (.slice zZ zX zY) 25 mq]::[aj aW (.slice zn zl zm) 26 wq]::[aC (bh (aw .i64) 3).row mq]::[aC (bh bu 4).row wq]::[aC Ix.row zq]::R)∧(kz≤2)∧(zq.length=2∧∀j,kz≤j→j<2→zq.getD j ai=([⟨na,ns.length,nc,ns⟩,⟨ya,ys.length,yc,ys⟩]:List (LR Int)).getD j ai)∧(kX d (bD d).length bq mq wq kz)∧m=2-kz) (i:=⟨0,([⟨na,ns.length,nc,ns⟩,⟨ya,ys.length,yc,ys⟩]:List (LR Int)),List.replicate d.acc.length (0:Int),none,([]:List (LR Int)),0,([]:List (LR Int)).length,none,([]:List (LR Bool)),0,([]:List (LR Bool)).length,rfl,N5,oz,(by exact ⟨rfl,fun j _ _=>rfl⟩),(by exact kX.start rfl),rfl⟩) (h:=?_)
 rintro m4 Γ4 DV ⟨kz,zq,bq,zZ,mq,zY,zX,zn,wq,zm,zl,rfl,zF,hkz,ML,hD,rfl⟩
 refine aL 6 (fun Aj=>?_) fun Aj=>?_
 refine ae 6 (h:=bU kz (zF.rt 10) (k:=ae 0 (h:=cn (zF.rt 10) (k:=?_))))
 have hZ2:([⟨na,ns.length,nc,ns⟩,⟨ya,ys.length,yc,ys⟩]:List (LR Int)).length=2:=rfl
 rw [show ([⟨na,ns.length,nc,ns⟩,⟨ya,ys.length,yc,ys⟩]:List (LR Int)).getD kz ai=zq.getD kz ai from (ML.2 kz (Nat.le_refl _) oz).symm]
 have hzn:=bH.len (show bH (aw .i64) DV (.slice ((zq.getD kz ai).a) ((zq.getD kz ai).n) ((zq.getD kz ai).c)) ((zq.getD kz ai).xs) from (ga.own (zF.cB 6 rfl)).get ai kz oz)
 have tK:kz<2:=by omega
 have Wa:(zq.getD kz ai).xs=ij d (decide (kz=1)) d.acc.length:=by rw [ML.2 kz (Nat.le_refl _) tK];rcases (by omega:kz=0∨kz=1) with rfl|rfl;(show ns=_;rw [NW,show Iy=d.acc.length by omega];rfl);(show ys=_;rw [VW,show Iy=d.acc.length by omega];rfl)
 have hzl:=ML.1
 have hDl:=hD.wl
 have hDm:=hD.vX
 refine aL 10 (fun Li=>?_) fun Li=>?_
 have SY:Uu13:=zF.iw (f:=Ix.row) ai 6 kz rfl oz
 have SX:aA _ _ _ [[_,_,_,_,_,_],[_],[_],[_],[_],[_],[_],[_]]:=aA.of (aE.j7 SY (l:=[0,1,2,4,3,5,6,7,8,9,10,11,12]) rfl rfl) rfl
 refine ae 3 (h:=aM (c:=FK _ _ ((zq.getD kz ai).xs) _ ((zq.getD kz ai).n) GZ GY Fq.length (some ⟨w1.heap.size,0,none⟩) bq d.acc.length ((List.replicate d.acc.length (0:Int)).length) zZ mq zY zX (.slice none (([]:List (Int×Int)).length) 0) zn wq zm zl DV (SX.Bl 0 7 rfl rfl rfl) (fun x hx=>by rw [Wa] at hx;obtain ⟨i,hi,e,_⟩:=ig.1 hx;have h9:=hD.bl;omega) oz oz oz) (k:=?_))
 rintro _ Od ⟨qX,kG,kF,j9,fp,j8,rfl,LG,q1⟩
 have SW:aA _ _ _ [[_,_,_,_,_,_],[_],[_],[_],[_],[_],[_],[]]:=(SX.gh (A':=[bm w2.heap.size #[.slice GZ Fq.length GY,.slice (some ⟨w1.heap.size,0,none⟩) ((List.replicate d.acc.length (0:Int)).length) d.acc.length,.slice kG ((mq++([⟨((zq.getD kz ai).a),((zq.getD kz ai).n),((zq.getD kz ai).c),((zq.getD kz ai).xs)⟩]:List (LR Int))).length) kF,(.slice none (([]:List (Int×Int)).length) 0),.slice j9 fp.length j8] 247,aj (aw .i64) (.slice (some ⟨w1.heap.size,0,none⟩) ((List.replicate d.acc.length (0:Int)).length) d.acc.length) 3 qX,aj aW (.slice kG ((mq++([⟨((zq.getD kz ai).a),((zq.getD kz ai).n),((zq.getD kz ai).c),((zq.getD kz ai).xs)⟩]:List (LR Int))).length) kF) 25 (mq++([⟨((zq.getD kz ai).a),((zq.getD kz ai).n),((zq.getD kz ai).c),((zq.getD kz ai).xs)⟩]:List (LR Int))),aC (bh (aw .i64) 3).row (mq++([⟨((zq.getD kz ai).a),((zq.getD kz ai).n),((zq.getD kz ai).c),((zq.getD kz ai).xs)⟩]:List (LR Int))),aj aW (.slice j9 fp.length j8) 26 fp,aC (bh bu 4).row fp]) (B':=[]) (C:=[]) 0 7 rfl rfl rfl LG).re rfl
 refine ae 4 (h:=aX (k:=?_))
 have SV:=SW.nr (aw .i64) 3
 have ZS:aA _ _ _ [[_,_,_,_,_,_],[_],[_],[_],[_],[_],[_],[],[]]:=(SV.jl (f:=Ix.row) (ai:LR Int) 1 8 kz rfl rfl rfl oz).re rfl
 have Ls:Uu12x2:=ZS.re rfl
 exact b6 2 (h:=by exact ⟨kz+1,zq.set kz ai,qX,kG,mq++([⟨((zq.getD kz ai).a),((zq.getD kz ai).n),((zq.getD kz ai).c),((zq.getD kz ai).xs)⟩]:List (LR Int)),kF,(mq++([⟨((zq.getD kz ai).a),((zq.getD kz ai).n),((zq.getD kz ai).c),((zq.getD kz ai).xs)⟩]:List (LR Int))).length,j9,fp,j8,fp.length,rfl,(Ls.pm [0,1,2,4,3,5,6,7,8,9,10,11] rfl rfl),oz,(by first|exact ⟨by rw [List.length_set];exact ML.1,fun j h1 h2=>by rw [eN (by rw [ML.1];omega),if_neg oz];exact ML.2 j oz h2⟩|exact ⟨ML.1,fun j h1 h2=>ML.2 j oz h2⟩),(by first|(rw [show Fq.length=(bD d).length by omega] at q1;exact hD.add tK Wa (fun e=>by have h7:=congrArg List.length e;simp only [List.length_nil] at h7;omega) q1)|exact hD.skip tK (by rw [←Wa];exact List.length_eq_zero_iff.1 oz)),rfl⟩)
 refine ae 4 (h:=aX (k:=?_))
 have Lr:=zF.sn
 exact b6 2 (h:=by exact ⟨kz+1,zq,bq,zZ,mq,zY,zX,zn,wq,zm,zl,rfl,Lr,oz,(by first|exact ⟨by rw [List.length_set];exact ML.1,fun j h1 h2=>by rw [eN (by rw [ML.1];omega),if_neg oz];exact ML.2 j oz h2⟩|exact ⟨ML.1,fun j h1 h2=>ML.2 j oz h2⟩),(by first|(rw [show Fq.length=(bD d).length by omega] at q1;exact hD.add tK Wa (fun e=>by have h7:=congrArg List.length e;simp only [List.length_nil] at h7;omega) q1)|exact hD.skip tK (by rw [←Wa];exact List.length_eq_zero_iff.1 oz)),rfl⟩)
 have hZ2:([⟨na,ns.length,nc,ns⟩,⟨ya,ys.length,yc,ys⟩]:List (LR Int)).length=2:=rfl
 have amd:=bH.len (zF.Kc 2 rfl)
 have hD2:kX d (bD d).length bq mq wq 2:=by have e9:kz=2:=oz;rw [←e9];exact hD
 have am6:=hD2.wl
 have hFl:=hFP.len
 refine ae 8 (h:=aH (zF.b 0) (k:=aL 4 (fun c56=>?_) fun c56=>?_))
 refine ae 5 (h:=aH (zF.b 0) (k:=?_))
 have Sr:=zF.sn
 have WN:=Sr.ps [0,3,5,11,1,2,4,6,7,8,9,10]
 refine cY 5 [113,112,4,2] (fun B R L m e v=>∃c wx,∃DX:List (Int×Int),∃wv,∃wz:List (LR Bool),e=(113,bJ c)::B∧aA w L v ([bm w2.heap.size #[.slice GZ Fq.length GY,.slice (some ⟨w1.heap.size,0,none⟩) ((List.replicate d.acc.length (0:Int)).length) d.acc.length,.slice zZ zX zY,.slice wx DX.length wv,.slice zn zl zm] 247]::[aj aW (.slice zn zl zm) 26 wz]::[aC (bh bu 4).row wz]::[aj kj (.slice wx DX.length wv) 249 DX]::R)∧(c≤Fq.length)∧(Wz (bD d).length wz DX c)∧m=Fq.length-c) (i:=⟨0,none,[],0,wq,rfl,(WN.re rfl),om,(by exact Wz.start hD2 oz),rfl⟩) (h:=?_)
 rintro m5 Γ5 LD ⟨c,wx,DX,wv,wz,rfl,WK,hc,hW,rfl⟩
 refine aL 6 (fun U9=>?_) fun U9=>?_
 have hwz:=hW.len
 have alv:=hW.row 0 oz
 have T6:=hW.row 1 oz
 have hwt:=hW.tl
 have Vw:aA _ _ _ [[_,_,_,_,_],[_],[_],[_],[_],[_],[_],[_]]:=aA.of (aE.j7 WK (l:=[0,5,3,1,2,4,6,7,8,9,10,11]) rfl rfl) rfl
 refine ae 13 (h:=aM (c:=Bj _ _ _ _ (.slice GZ Fq.length GY) (.slice (some ⟨w1.heap.size,0,none⟩) ((List.replicate d.acc.length (0:Int)).length) d.acc.length) zZ mq zY zX wx DX wv zn wz zm zl LD (Vw.dH 0) oz oz (by show 0≤((c:Nat):Int)∧((c:Nat):Int)<((wz.getD 0 ai).xs.length:Int)∧((c:Nat):Int)<((wz.getD 1 ai).xs.length:Int);omega) oz) (k:=?_))
 rintro _ LC ⟨jd,jc,DP,oN,rfl,WV,q2,q3⟩
 have H60:=Vw.un 0 WV
 refine ae 4 (h:=aX (k:=?_))
 have H61:=H60.sn
 exact b6 2 (h:=by exact ⟨c+1,jd,DX++[(oN,((c:Nat):Int))],jc,DP,rfl,(H61.pm [0,3,4,2,5,1,6,7,8,9,10,11] rfl rfl),om,(by (simp only [Int.toNat_natCast] at q3;exact hW.step oz q2 q3)),rfl⟩)
 exact bE 9 (h:=⟨w2.heap.size,GZ,Fq,GY,(some ⟨w1.heap.size,0,none⟩),_,d.acc.length,(List.replicate d.acc.length (0:Int)).length,zZ,mq,zY,zX,wx,DX,wv,zn,_,zm,zl,rfl,(WK.se [0,8,4,5,6,3,1,2]),hFP,(hD2.YK cq oz hW oz),(by have h9:=hW.tl;omega)⟩)
 exact bE 9 (h:=⟨w2.heap.size,GZ,Fq,GY,(some ⟨w1.heap.size,0,none⟩),_,d.acc.length,(List.replicate d.acc.length (0:Int)).length,zZ,mq,zY,zX,none,([]:List (Int×Int)),0,zn,_,zm,zl,rfl,(zF.se [0,7,1,2,4,11,3,5]),hFP,(hD2.ah8 cq oz),(by simp)⟩)
theorem Jo (d:ar) (fN:aO) (fR:aO) (gq:aO) (fM:Nat) (fQ:Nat) (gp:Nat) (w:World) (gS:cd (aw .i64) w fN d.cls fM) (iy:cd (aw .i64) w fR d.next fQ) (iM:cd bu w gq d.acc gp):
 Calls Tryz.prog 114 #[.agg #[aG fN d.cls fM,ak d.width,ak d.start,aG fR d.next fQ,aG gq d.acc gp]] w (bj fun v w'=>∃a2,∃c2:Nat,v= .tuple #[aG a2 (eR d) c2,ak (tx d)]∧aE w [] w' [cg (aw .i64) 3 a2 (eR d) c2]∧(aN d=false→a2=none)):=by
 have iH:=gS.le
 have iG:=iy.le
 have iJ:=iM.le
 refine cL Tryz.func114 (h:=fun H0=>ae 2 (h:=gI H0 (k:=fun w1 H1=>ae 7 (h:=b8 (H1.b 0) (k:=ae 0 (h:=aM (c:=tW d fN fR gq fM fQ gp w1 (gS.at H1) (iy.at H1) (iM.at H1)) (k:=?_)))))))
 rintro _ w2 ⟨rfl,u2⟩
 have H2:=H1.call u2
 refine cS 3 (fun Zo=>?_) fun Zo=>?_
 refine gr 7 (h:=?_)
 have qJ:aN d=false:=by simpa using Zo
 have e1:eR d=[]:=by rw [eR,if_neg (by rw [qJ];decide)]
 have e2:tx d=0:=by rw [tx,if_neg (by rw [qJ];decide)]
 rw [e1,e2]
 exact ⟨none,0,rfl,ej H2,(fun _=>rfl)⟩
 have cq:aN d=true:=by simpa using Zo
 have wH:=bo.1 cq
 have SK:=oY d
 refine ae 4 (h:=b8 (H2.b 0) (k:=ae 0 (h:=aM (c:=EL d fN fR gq fM fQ gp w2 (gS.at H2) (iy.at H2) (iM.at H2) cq) (k:=?_))))
 rintro _ w3 ⟨g_1,adD,F_1,adz,rN,jv,za,R2,af8,abD,af7,af6,BU,afG,D7,afy,afv,afx,afw,rfl,u3,q1,q2,q3⟩
 have H3:=H2.nw u3
 have H4:=H3.sn
 have H5:=H4.ps [1,3,4,5,6,7,8,0,2]
 refine cY 5 [4,3,2] (fun B R L m e v=>∃Zv:List Int,∃zZ,∃mq:List (LR Int),∃zY,∃zX:Nat,∃wx,∃NK:List (Int×Int),∃wv zn,∃wq:List (LR Bool),∃zm,∃zl:Nat,e=B∧aA w L v ([bm g_1 #[aG adD F_1 adz,.slice rN R2 za,.slice zZ zX zY,aG wx NK wv,.slice zn zl zm] 247]::[aj (aw .i64) (.slice rN R2 za) 3 Zv]::[aj aW (.slice zZ zX zY) 25 mq]::[aC (bh (aw .i64) 3).row mq]::[cg kj 249 wx NK wv]::[aj aW (.slice zn zl zm) 26 wq]::[aC (bh bu 4).row wq]::R)∧(lR d Zv mq NK wq (fun _ _ _=>False))∧((d.acc.length-mq.length)*(bD d).length+NK.length≤4096*259+259)∧m=(d.acc.length-mq.length)*(bD d).length+NK.length) (i:=⟨jv,af8,abD,af7,af6,BU,afG,D7,afy,afv,afx,afw,rfl,H5,(by exact q2),(by (have SI:=Nat.mul_le_mul (show d.acc.length-abD.length≤4096 by omega) (show (bD d).length≤259 by omega));omega),rfl⟩) (h:=?_)
 rintro m1 Γ1 w4 ⟨Zv,zZ,mq,zY,zX,wx,NK,wv,zn,wq,zm,zl,rfl,H6,hH,hB,rfl⟩
 refine ae 6 (h:=aH (H6.b 0) (k:=aL 4 (fun j0=>?_) fun j0=>?_))
 obtain ⟨htl,ht1,ht2⟩:=S7 hH.wait oz
 refine eI 4 H6 (h:=fun w5 H7=>cP 3 3 (H7.b 0) (D:=fun _ hC=>aH hC) (h:=cP 3 7 (H7.b 0) (D:=fun _ hC=>aH hC) (h:=gZ 1 9 (D:=fun _=>jK) (h:=bY 0 10 (H7.rt 4) (D:=fun _ hC=>fI (NK.length-1) hC (cN:=oz)) (h:=bY 0 11 (H7.rt 4) (D:=fun _ hC=>zt hC) (h:=c7 0 12 (D:=da H7 (k:=fun w6 H8=>?_))))))))
 refine ⟨⟨(H8.rt 4),(H8.rt 4),trivial,trivial,(H8.b 0),trivial,trivial,trivial,(H8.b 0),trivial,trivial,trivial,trivial⟩,?_⟩
 refine c7 0 13 (D:=bC H8 9 (k:=fun w7 H9=>?_))
 refine ⟨trivial,?_⟩
 refine eI 3 H9 (h:=fun w8 bO=>cP 4 4 (bO.b 0) (D:=fun _ hC=>aH hC) (h:=cP 3 8 (bO.b 0) (D:=fun _ hC=>aH hC) (h:=gZ 1 10 (D:=fun _=>jK) (h:=?_))))
 refine vQ 0 11 ⟨_,_,_,rfl,rfl,rfl,rfl,rfl,rfl⟩ (D8 (((NK.length:Nat):Int)-1) (NK.length-1) (T:=kj) (e:=249) (xs:=NK) rfl Tryz.underlying245 aaP rfl rfl (bO.ow 4) oz oz fun w9 u6=>?_)
 have bR:=bO.un 4 u6
 refine ⟨⟨trivial,trivial⟩,?_⟩
 refine c7 2 14 (D:=jA bR 0 (k:=fun gK cm=>?_))
 refine ⟨trivial,?_⟩
 refine cG 2 [5,4,3,2] (h:=ae 2 (h:=b8 (cm.b 9) (k:=?_)))
 have cW:aA _ _ _ [[_,_,_,_,_,_,_,_],[_],[_]]:=aA.of (aE.j7 cm (l:=[0,8,1,2,3,4,5,6,7,9]) rfl rfl) rfl
 refine ae 0 (h:=aM (c:=MQ _ _ _ d adD F_1 adz F_1.length rN Zv za R2 zZ mq zY zX wx (NK.take (NK.length-1)) wv zn wq zm zl gK (cW.dH 0) cq q1 ⟨ht1,ht2⟩ (htl▸hH) gv) (k:=?_))
 rintro _ iu ⟨qX,kG,vm,kF,abF,jd,AK,jc,j9,fp,j8,DS,rfl,u8,q4,q5⟩
 have cH:=cW.un 0 u8
 have cI:=cH.sn
 have agX:=Xq (n:=d.acc.length) (K:=(bD d).length) q5.1 q4.part.bound q5.2
 rw [List.length_take] at agX
 exact b6 2 (h:=by exact ⟨qX,kG,vm,kF,abF,jd,AK,jc,j9,fp,j8,DS,rfl,(cI.pm [0,2,3,4,5,6,7,8,1] rfl rfl),(by exact q4),oz,rfl⟩)
 obtain rfl:R2=Zv.length:=bH.len (H6.Kc 1 rfl)
 have amT:=hH.part.len
 obtain ⟨hj1,Ab⟩:=hH.blocks cq oz
 have hbL:eR d=uM d:=by rw [eR,if_pos cq]
 have hbN:tx d=((dd (pJ d)).length:Int):=by rw [tx,if_pos cq]
 refine eI 3 H6 (h:=fun iW cT=>cP 3 3 (cT.b 0) (D:=fun _ hC=>aH hC) (h:=cP 3 7 (cT.b 0) (D:=fun _ hC=>aH hC) (h:=c7 0 8 (D:=aM (c:=Fo rN Zv _ rN Zv _ iW (cT.rt 1) (cT.rt 1) oz) (k:=?_)))))
 rintro _ iV ⟨bN,cv,rfl,u9⟩
 have dj:Uu10:=(cT.im u9).re rfl
 refine ⟨trivial,?_⟩
 refine gr 7 (h:=?_)
 rw [hbL,hbN,←hj1,←Ab]
 exact ⟨bN,cv,rfl,(by have hh:=dj.iz 9;exact hh),(fun h9=>by rw [cq] at h9;cases h9)⟩
theorem Im (d:ar) (fN:aO) (fR:aO) (gq:aO) (fM:Nat) (fQ:Nat) (gp:Nat) (w:World) (gS:cd (aw .i64) w fN d.cls fM) (iy:cd (aw .i64) w fR d.next fQ) (iM:cd bu w gq d.acc gp) (Um:d.cls.length≤100000):
 Calls Tryz.prog 85 #[.agg #[aG fN d.cls fM,ak d.width,ak d.start,aG fR d.next fQ,aG gq d.acc gp]] w (bj fun v w'=>∃ca,∃cc:Nat,∃na,∃nc:Nat,∃ba,∃bc:Nat,v= .tuple #[.agg #[aG ca ((jP d).cls) cc,ak ((jP d).width),ak ((jP d).start),aG na ((jP d).next) nc,aG ba ((jP d).acc) bc],ak (um d)]∧aE w [] w' [cg (aw .i64) 3 ca ((jP d).cls) cc,cg (aw .i64) 3 na ((jP d).next) nc,cg bu 4 ba ((jP d).acc) bc]):=by
 have iH:=gS.le
 have iG:=iy.le
 have iJ:=iM.le
 refine cL Tryz.func85 (h:=fun H0=>ae 2 (h:=gI H0 (k:=fun w1 H1=>ae 0 (h:=da H1 (k:=fun w2 H2=>ae 5 (h:=b8 (H2.b 0) (k:=ae 0 (h:=aM (c:=Jo d fN fR gq fM fQ gp w2 (gS.at H2) (iy.at H2) (iM.at H2)) (k:=?_)))))))))
 rintro _ w3 ⟨bN,cv,rfl,u3,q1⟩
 have H3:=H2.ns u3
 have agQ:=fun e=>bH.P0 (H3.Kc 2 rfl) e
 refine aR 11 rfl (yR Tryz.underlying25 rfl (aL 2 (fun RR=>?_) fun RR=>?_))
 refine ae 2 (h:=ck (k:=aU 0 (h:=bC H3 1 (k:=fun w4 H4=>fx 4 (h1:=cK (H4.b 1)) (h2:=cZ) (h:=?_)))))
 have qJ:¬aN d=true:=fun h9=>by have h8:=agQ RR;have h7:=y9 d;rw [eR,if_pos h9] at h8;rw [h8] at h7;have h6:=(bo.1 h9).1;simp only [List.length_nil] at h7;omega
 obtain ⟨e1,e2⟩:=MB qJ
 rw [e1,e2]
 have H5:=H4.nr (aw .i64) 3
 have H6:=H5.nr (aw .i64) 3
 have H7:=H6.nr bu 4
 exact ⟨none,0,none,0,none,0,rfl,(H7.se [3,4,5])⟩
 have cq:aN d=true:=Classical.byContradiction fun h9=>RR (q1 (by simpa using h9))
 have wH:=bo.1 cq
 have hbL:eR d=uM d:=by rw [eR,if_pos cq]
 have GW:(eR d).length=d.acc.length:=by rw [hbL];exact y9 d
 have Ac:wm d (eR d):=by rw [hbL];exact Jp d
 refine aR 4 rfl (iE 259 (0:Int) (T:=(aw .i64)) rfl Tryz.underlying25 zM rfl rfl rfl rfl oz oz fun w5 u5=>?_)
 have H8:=H3.nw u5
 refine ae 7 (h:=b8 (H8.b 0) (k:=ae 0 (h:=aM (c:=Mc d fN fR gq fM fQ gp w5 (gS.at H8) (iy.at H8) (iM.at H8) oz) (k:=?_))))
 rintro _ w6 ⟨gW,kM,jB,rfl,u6,q2⟩
 have H9:=H8.ns u6
 have GR:=(q2.2 cq).1
 have bO:=H9.ps [3,0,1,2,4]
 refine cY 5 [25,7,6,24,23,4,3,2,1] (fun B R L m e v=>∃k,∃cl:List Int,∃Lf Le cw,e=(25,bJ k)::(7,ak cw)::(6,aG Lf cl Le)::B∧aA w L v ([cg (aw .i64) 3 Lf cl Le]::R)∧(k≤kM.length)∧(N8 d (eR d) cl cw k)∧m=kM.length-k) (i:=⟨0,List.replicate 259 (0:Int),(some ⟨w3.heap.size,0,none⟩),259,0,rfl,bO,om,(by exact N8.start d _),rfl⟩) (h:=?_)
 rintro m1 Γ1 w7 ⟨k,cl,Lf,Le,cw,rfl,bR,hk,hC,rfl⟩
 have M3:=hC.len
 refine aL 6 (fun RQ=>?_) fun RQ=>?_
 refine ae 7 (h:=bU k (bR.rt 4) (k:=ae 0 (h:=cn (bR.rt 4) (k:=?_))))
 have hrs:=(q2.2 cq).2 k oz
 refine cS 11 (fun Nv=>?_) fun Nv=>?_
 exact ae 3 (h:=aX (k:=b6 2 (h:=by exact ⟨k+1,cl,Lf,Le,cw,rfl,bR,om,(by first|exact hC.join VY hI oz|exact hC.skip (fun h9=>by have h8:=hrs.2 h9;rw [h8] at Nv;exact absurd Nv (by decide))),rfl⟩)))
 have VY:To d d.start ((k:Nat):Int):=hrs.1 (Jn Nv)
 refine aR 4 rfl (iE 259 (0:Int) (T:=(aw .i64)) rfl Tryz.underlying25 zM rfl rfl rfl rfl oz oz fun w8 u7=>?_)
 have cm:=bR.nw u7
 refine ae 7 (h:=aH (cm.b 1) (k:=?_))
 have cW:=cm.ps [5,0,1,2,3,4]
 refine cY 5 [36,35,34,10,8,25,6,24,23,4,3,2,1] (fun B R L m e v=>∃y,∃to:List Int,e=(36,bJ y)::B∧aA w L v ([aj (aw .i64) (.slice (some ⟨w7.heap.size,0,none⟩) ((List.replicate 259 (0:Int)).length) 259) 3 to]::R)∧(y≤d.cls.length)∧(WC d (eR d) k to y)∧m=d.cls.length-y) (i:=⟨0,List.replicate 259 (0:Int),rfl,cW,om,(by exact WC.start d _ k),rfl⟩) (h:=?_)
 rintro m2 Γ2 w9 ⟨y,to,rfl,cH,hy,hI,rfl⟩
 refine aL 6 (fun RP=>?_) fun RP=>?_
 refine ae 7 (h:=bU y (gS.at cH) (k:=ae 0 (h:=cn (gS.at cH) (k:=?_))))
 have KU:=jD wH.2.1 y oz
 have Wc:=dS (q:=((k:Nat):Int)) cq oz oz KU.1 KU.2
 have htl:=hI.len
 exact ae 9 (h:=aH (cH.b 2) (k:=ae 2 (h:=aH (cH.b 2) (k:=ae 0 (h:=GP (k:=ae 1 (h:=aX (k:=ae 0 (h:=bU (((((k:Nat):Int)*d.width)+(d.cls.getD y 0)).toNat) (iy.at cH) (cN:=oz) (k:=ae 0 (h:=cn (iy.at cH) (k:=ae 0 (h:=bU ((d.next.getD (((((k:Nat):Int)*d.width)+(d.cls.getD y 0)).toNat) 0).toNat) (cH.rt 4) (cN:=oz) (k:=ae 0 (h:=cn (cH.rt 4) (k:=ae 0 (h:=bU y (cH.rt 0) (k:=aU 0 (h:=tH ((eR d).getD ((d.next.getD (((((k:Nat):Int)*d.width)+(d.cls.getD y 0)).toNat) 0).toNat) 0) cH 0 (k:=fun gK cI=>cG 3 [36,35,34,10,8,25,6,24,23,4,3,2,1] (h:=ae 1 (h:=aX (k:=b6 2 (h:=by exact ⟨y+1,to.set y ((eR d).getD ((d.next.getD (((((k:Nat):Int)*d.width)+(d.cls.getD y 0)).toNat) 0).toNat) 0),rfl,cI,om,(by exact hI.step oz rfl),rfl⟩))))))))))))))))))))))))
 have alD:=hI.len
 refine ae 5 (h:=aM (c:=uq Lf cl Le cl.length _ to 259 ((List.replicate 259 (0:Int)).length) w9 (cH.rt 1) (cH.rt 0) oz) (k:=?_))
 rintro _ iu ⟨kW,oj,rfl,u9⟩
 have cT:Uu7:=(cH.im u9).re rfl
 exact ae 9 (h:=aX (k:=b6 2 (h:=by exact ⟨k+1,ff cl to,kW,oj,kc cl to,rfl,(cT.pm [6,2,3,4,5] rfl rfl),om,(by first|exact hC.join VY hI oz|exact hC.skip (fun h9=>by have h8:=hrs.2 h9;rw [h8] at Nv;exact absurd Nv (by decide))),rfl⟩)))
 obtain ⟨hc1,hc2⟩:=hC.fin cq Ac oz
 have X5:=FD (jJ d)
 rw [←hc1,←hc2] at X5
 refine ae 4 (h:=b8 (bR.b 1) (k:=ae 3 (h:=aM (c:=yh d fN fR gq fM fQ gp bN (eR d) _ Lf cl Le _ w7 (gS.at bR) (iy.at bR) (iM.at bR) (bR.rt 3) (bR.rt 0) cq Ac GW X5.1 X5.2) (k:=?_))))
 rintro _ iW ⟨Cm,Ig,rN,za,rfl,qZ⟩
 have dj:Uu7:=(bR.im qZ).re rfl
 refine aU 0 (h:=bC dj 2 (k:=fun iV dY=>fx 4 (h1:=cK (dY.b 2)) (h2:=cZ) (h:=?_)))
 obtain ⟨e1,e2⟩:=sQ cq
 rw [e1,e2]
 rw [hbL,hc1,hc2] at*
 exact ⟨Lf,Le,Cm,Ig,rN,za,rfl,(dY.se [0,5,6])⟩
end Go.Proofs.YtpbgmkhmdbchpaaGreatDoor
namespace Go.Sx
theorem DY {p:Prop} (h:p:=by simp_all [ft]):p:=h
end Go.Sx
namespace Go.Proofs.YtpbgmkhmdbchpaaGreatDoor
open Go Go.Sx
theorem tQ (a:ar) (ZN:aO) (ZJ:aO) (aba:aO) (acc:Nat) (ZI:Nat) (abc:Nat) (b:ar) (Dn:aO) (Dj:aO) (DM:aO) (Dm:Nat) (Di:Nat) (DL:Nat) (w:World) (rca:cd (aw .i64) w ZN a.cls acc) (rna:cd (aw .i64) w ZJ a.next ZI) (Z5:cd bu w aba a.acc abc) (rcb:cd (aw .i64) w Dn b.cls Dm) (rnb:cd (aw .i64) w Dj b.next Di) (Z4:cd bu w DM b.acc DL):
 Calls Tryz.prog 42 #[.agg #[aG ZN a.cls acc,ak a.width,ak a.start,aG ZJ a.next ZI,aG aba a.acc abc],.agg #[aG Dn b.cls Dm,ak b.width,ak b.start,aG Dj b.next Di,aG DM b.acc DL]] w (bj fun v w'=>v= .bool (ft a b)∧aE w [] w' []):=by
 have Xw:=rca.le
 have Xu:=rna.le
 have Xy:=Z5.le
 have Xv:=rcb.le
 have Xt:=rnb.le
 have Xx:=Z4.le
 refine cL Tryz.func42 (h:=fun H0=>ae 2 (h:=gI H0 (k:=fun w1 H1=>ae 0 (h:=gI H1 (k:=fun w2 H2=>ae 6 (h:=aH (H2.b 0) (k:=ae 1 (h:=aH (H2.b 1) (k:=bZ 2 10 (fun ahW=>?_) fun ahW=>?_)))))))))
 refine ae 1 (h:=aH (H2.b 0) (k:=ae 1 (h:=aH (H2.b 1) (k:=bZ 3 17 (fun adi=>?_) fun adi=>?_))))
 refine ae 1 (h:=aH (H2.b 0) (k:=ae 1 (h:=aH (H2.b 1) (k:=ae 0 (h:=aM (c:=yN ZN a.cls acc a.cls.length Dn b.cls Dm b.cls.length w2 (rca.at H2) (rcb.at H2)) (k:=?_))))))
 rintro _ w3 ⟨rfl,u3⟩
 have H3:=H2.call u3
 refine bZ 2 24 (fun Yx=>?_) fun Yx=>?_
 refine ae 1 (h:=aH (H3.b 0) (k:=ae 1 (h:=aH (H3.b 1) (k:=ae 0 (h:=aM (c:=yN ZJ a.next ZI a.next.length Dj b.next Di b.next.length w3 (rna.at H3) (rnb.at H3)) (k:=?_))))))
 rintro _ w4 ⟨rfl,u4⟩
 have H4:=H3.call u4
 refine bZ 2 31 (fun Uy=>?_) fun Uy=>?_
 refine ae 1 (h:=aH (H4.b 0) (k:=ae 1 (h:=aH (H4.b 1) (k:=ae 0 (h:=aM (c:=IX aba a.acc abc a.acc.length DM b.acc DL b.acc.length w4 (Z5.at H4) (Z4.at H4)) (k:=?_))))))
 rintro _ w5 ⟨rfl,u5⟩
 have H5:=H4.call u5
 exact cG 4 [4] (h:=bE 1 (h:=⟨DY,H5.ag⟩))
 exact cG 9 [4] (h:=bE 1 (h:=⟨DY,H4.ag⟩))
 exact cG 16 [4] (h:=bE 1 (h:=⟨DY,H3.ag⟩))
 exact cG 23 [4] (h:=bE 1 (h:=⟨DY,H2.ag⟩))
 exact cG 30 [4] (h:=bE 1 (h:=⟨DY,H2.ag⟩))
theorem o5 (a:ar) (ZN:aO) (ZJ:aO) (aba:aO) (acc:Nat) (ZI:Nat) (abc:Nat) (b:ar) (Dn:aO) (Dj:aO) (DM:aO) (Dm:Nat) (Di:Nat) (DL:Nat) (w:World) (rca:cd (aw .i64) w ZN a.cls acc) (rna:cd (aw .i64) w ZJ a.next ZI) (Z5:cd bu w aba a.acc abc) (rcb:cd (aw .i64) w Dn b.cls Dm) (rnb:cd (aw .i64) w Dj b.next Di) (Z4:cd bu w DM b.acc DL):
 Calls Tryz.prog 39 #[.agg #[aG ZN a.cls acc,ak a.width,ak a.start,aG ZJ a.next ZI,aG aba a.acc abc],.agg #[aG Dn b.cls Dm,ak b.width,ak b.start,aG Dj b.next Di,aG DM b.acc DL]] w (bj fun v w'=>v= .bool (ft a b)∧aE w [] w' []):=by
 have Xw:=rca.le
 have Xu:=rna.le
 have Xy:=Z5.le
 have Xv:=rcb.le
 have Xt:=rnb.le
 have Xx:=Z4.le
 refine cL Tryz.func39 (h:=fun H0=>ae 2 (h:=gI H0 (k:=fun w1 H1=>ae 0 (h:=gI H1 (k:=fun w2 H2=>ae 7 (h:=aH (H2.b 0) (k:=ae 1 (h:=aH (H2.b 1) (k:=ae 0 (h:=aM (c:=xC ZN a.cls acc a.cls.length Dn b.cls Dm b.cls.length w2 (rca.at H2) (rcb.at H2)) (k:=?_)))))))))))
 rintro _ w3 ⟨rfl,u3⟩
 have H3:=H2.call u3
 refine aR 0 rfl (Wr (p:=a.cls=b.cls) rfl (bZ 1 12 (fun g58=>?_) fun g58=>?_))
 exact cG 32 [42,4,3,2] (h:=bE 7 (h:=⟨(by first|(simp_all [ft];done)|(rw [ft,decide_eq_false (by rintro ⟨_,_,_,_,h9⟩;rw [h9] at Gm;exact Gm rfl)])),H3.ag⟩))
 refine ae 1 (h:=aH (H3.b 0) (k:=ae 1 (h:=aH (H3.b 1) (k:=ae 0 (h:=aM (c:=xC ZJ a.next ZI a.next.length Dj b.next Di b.next.length w3 (rna.at H3) (rnb.at H3)) (k:=?_))))))
 rintro _ w4 ⟨rfl,u4⟩
 have H4:=H3.call u4
 refine aR 0 rfl (Wr (p:=a.next=b.next) rfl (bZ 2 20 (fun ac4=>?_) fun ac4=>?_))
 exact cG 24 [42,4,3,2] (h:=bE 7 (h:=⟨(by first|(simp_all [ft];done)|(rw [ft,decide_eq_false (by rintro ⟨_,_,_,_,h9⟩;rw [h9] at Gm;exact Gm rfl)])),H4.ag⟩))
 refine ae 1 (h:=aH (H4.b 0) (k:=ae 1 (h:=aH (H4.b 1) (k:=bZ 3 27 (fun ac3=>?_) fun ac3=>?_))))
 exact cG 17 [42,4,3,2] (h:=bE 7 (h:=⟨(by first|(simp_all [ft];done)|(rw [ft,decide_eq_false (by rintro ⟨_,_,_,_,h9⟩;rw [h9] at Gm;exact Gm rfl)])),H4.ag⟩))
 refine ae 1 (h:=aH (H4.b 0) (k:=ae 1 (h:=aH (H4.b 1) (k:=bZ 3 34 (fun Yo=>?_) fun Yo=>?_))))
 exact cG 10 [42,4,3,2] (h:=bE 7 (h:=⟨(by first|(simp_all [ft];done)|(rw [ft,decide_eq_false (by rintro ⟨_,_,_,_,h9⟩;rw [h9] at Gm;exact Gm rfl)])),H4.ag⟩))
 refine ae 1 (h:=aH (H4.b 0) (k:=ae 2 (h:=aH (H4.b 1) (k:=cG 5 [42,4,3,2] (h:=aL 0 (fun Gm=>?_) fun Gm=>?_)))))
 exact bE 6 (h:=⟨(by first|(simp_all [ft];done)|(rw [ft,decide_eq_false (by rintro ⟨_,_,_,_,h9⟩;rw [h9] at Gm;exact Gm rfl)])),H4.ag⟩)
 have hlen:a.acc.length=b.acc.length:=by omega
 refine cY 9 [5,4,3,2] (fun B R L m e v=>∃k,e=(5,bJ k)::B∧aA w L v (R)∧(k≤a.acc.length)∧(∀i,i<k→a.acc.getD i false=b.acc.getD i false)∧m=a.acc.length-k) (i:=⟨0,rfl,H4,om,(by intro i hi;omega),rfl⟩) (h:=?_)
 rintro m1 Γ1 w5 ⟨k,rfl,H5,hk,he,rfl⟩
 refine ae 5 (h:=aH (H5.b 0) (k:=aL 4 (fun Zf=>?_) fun Zf=>?_))
 refine eI 5 H5 (h:=fun w6 H6=>cP 1 1 (H6.b 0) (D:=fun _ hC=>aH hC) (h:=bY 1 3 (Z5.at H6) (D:=fun _ hC=>bU k hC) (h:=bY 0 4 (Z5.at H6) (D:=fun _ hC=>cn hC) (h:=cP 1 6 (H6.b 1) (D:=fun _ hC=>aH hC) (h:=bY 1 8 (Z4.at H6) (D:=fun _ hC=>bU k hC) (h:=bY 0 9 (Z4.at H6) (D:=fun _ hC=>cn hC) (h:=?_)))))))
 refine mN 0 10 ⟨_,_,_,rfl,rfl,rfl,rfl,rfl,rfl⟩ (fun _=>pH Tryz.underlying4 rfl rfl ⟨rfl,rfl⟩) (aL 2 (fun c62=>?_) fun c62=>?_)
 exact bE 6 (h:=⟨(by rw [ft,decide_eq_false (by rintro ⟨_,_,_,_,h9⟩;rw [h9] at c62;exact c62 rfl)]),H6.ag⟩)
 exact ae 5 (h:=aX (k:=b6 2 (h:=by exact ⟨k+1,rfl,H6,om,(by exact jw he (by rcases h1:a.acc.getD k false with _|_<;>rcases h2:b.acc.getD k false with _|_<;>simp_all)),rfl⟩)))
 exact bE 8 (h:=⟨(by rw [ft,decide_eq_true ⟨by simpa using g58,by omega,by omega,by simpa using ac4,eM (d:=false) oz (fun i hi=>he i oz)⟩]),H5.ag⟩)
open Go Go.Sx Go.RowKit
theorem Fe (la:aO) (l:List Nd) (lc:Nat) (w:World) (rl:bH aJ w (.slice la l.length lc) l):
   Calls Tryz.prog 83 #[.slice la l.length lc] w (bj fun v w'=>∃a2:aO,∃c2:Nat,∃st:List ay,∃s0:Int,∃f0:Int,∃er:Int,v= .tuple #[.agg #[.slice a2 st.length c2,.int .i64 s0,.int .i64 f0],.int .i64 er]∧aE w [] w' [aj aP (.slice a2 st.length c2) 193 st]∧(oB l st s0 f0 er)):=by
  refine bj.calls (Ih la l lc w rl) ?_
  rintro v w' ⟨a2,c2,n2,st,s0,f0,er,rfl,u,h⟩
  have hn:n2=st.length:=(cQ (aE.hp u) (List.mem_singleton.2 rfl)).len
  subst hn
  exact ⟨a2,c2,st,s0,f0,er,rfl,u,h⟩
theorem EE (la:aO) (l:List Nd) (lc:Nat) (w:World) (rl:bH aJ w (.slice la l.length lc) l) (hl9:l.length≤100000):
   Calls Tryz.prog 87 #[.slice la l.length lc] w (bj fun v w'=>∃a2:aO,∃c2:Nat,∃st:List ay,∃s0:Int,∃f0:Int,∃er:Int,v= .tuple #[.agg #[.slice a2 st.length c2,.int .i64 s0,.int .i64 f0],.int .i64 er]∧aE w [] w' [aj aP (.slice a2 st.length c2) 193 st]∧(oB l st s0 f0 er)):=by
  refine bj.calls (HA la l lc w rl hl9) ?_
  rintro v w' ⟨a2,c2,n2,st,s0,f0,er,rfl,u,h⟩
  have hn:n2=st.length:=(cQ (aE.hp u) (List.mem_singleton.2 rfl)).len
  subst hn
  exact ⟨a2,c2,st,s0,f0,er,rfl,u,h⟩
theorem Ho (la:aO) (l:List Nd) (lc:Nat) (T:Tr) (w:World) (rl:bH aJ w (.slice la l.length lc) l) (hw:T.wk) (hf:T.flat=l) (hl:l.length≤512):
   Calls Tryz.prog 62 #[.slice la l.length lc] w (bj fun v w'=>∃a2:aO,∃c2:Nat,v= .slice a2 ((bz T).flat).length c2∧aE w [] w' [aj aJ (.slice a2 ((bz T).flat).length c2) 89 ((bz T).flat)]):=by
  subst hf
  refine bj.calls (L3 la T.flat lc T w rl (Sub.self hw) hl (fun j hj=>?_)) ?_
  · exact rB _ [T] T.flat T.flat.length 0 (Nat.le_refl _) (by intro x hx;rw [List.mem_singleton] at hx;subst hx;exact hw) (Nat.le_refl _) (Nat.zero_le _) (by rw [cz];simp) j (Nat.zero_le _) hj
  · rintro v w' ⟨a2,c2,n2,rfl,u⟩
    have hn:n2=((bz T).flat).length:=(cQ (aE.hp u) (List.mem_singleton.2 rfl)).len
    subst hn
    exact ⟨a2,c2,rfl,u⟩
end Go.Proofs.YtpbgmkhmdbchpaaGreatDoor
namespace Go.Sx
theorem zK {p:Prop} (h:p:=by first|omega|(simp only [List.length_append,List.length_nil,List.length_cons,List.length_singleton,List.length_take];omega)):p:=h
end Go.Sx
namespace Go.Proofs.YtpbgmkhmdbchpaaGreatDoor
open Go Go.Sx
theorem xX (la:aO) (l:List Nd) (lc:Nat) (w:World) (rl:cd aJ w la l lc) (hl:l.length≤100000):
 Calls Tryz.prog 20 #[aG la l lc] w (bj fun v w'=>∃a2,∃c2:Nat,v=aG a2 (gO l) c2∧aE w [] w' [cg aJ 89 a2 (gO l) c2]):=by
 have dD:=rl.le
 refine cL Tryz.func20 (h:=fun H0=>ae 7 (h:=ck (us:=[av Bs.zero.w0,av Bs.zero.w1,av Bs.zero.w2,av Bs.zero.w3]) (k:=ae 0 (h:=aM (c:=p9 Bs.zero w) (k:=?_)))))
 rintro _ w1 ⟨rfl,u1⟩
 have H1:=H0.call u1
 refine ae 0 (h:=ck (us:=[ak 1,av (gF Bs.zero).w0,av (gF Bs.zero).w1,av (gF Bs.zero).w2,av (gF Bs.zero).w3,ak 0,ak 0]) (k:=ae 0 (h:=ck (us:=[ak 7,av Bs.zero.w0,av Bs.zero.w1,av Bs.zero.w2,av Bs.zero.w3,ak 0,ak (-1)]) (k:=ae 0 (h:=db aJ ([(⟨1,gF Bs.zero,0,0⟩:Nd),(⟨7,Bs.zero,0,-1⟩:Nd)]:List Nd) H1 (k:=fun w2 H2=>ae 7 (h:=fT H2 0 (rl.at H2) (hb:=zK) (gk:=zK) (k:=fun a1 c1 w3 H3x=>?_))))))))
 have H3:=H3x.no
 refine ae 0 (h:=ck (us:=[ak 5,av Bs.zero.w0,av Bs.zero.w1,av Bs.zero.w2,av Bs.zero.w3,ak 0,ak 0]) (k:=ae 0 (h:=db aJ ([(⟨5,Bs.zero,0,0⟩:Nd)]:List Nd) H3 (k:=fun w4 H4=>ae 0 (h:=fT H4 0 (H4.rt 1) (hb:=zK) (gk:=zK) (k:=fun a2 c2 w5 Vv=>?_))))))
 have H5:=(Vv.drop 1).no
 exact bE 4 (h:=⟨a2,c2,rfl,(by have hh:=H5.iz 0;exact hh)⟩)
theorem xU (la:aO) (l:List Nd) (lc:Nat) (w:World) (rl:cd aJ w la l lc) (hl:l.length≤100000):
 Calls Tryz.prog 60 #[aG la l lc] w (bj fun v w'=>∃a2,∃c2:Nat,v=aG a2 (gO l) c2∧aE w [] w' [cg aJ 89 a2 (gO l) c2]):=by
 have dD:=rl.le
 refine cL Tryz.func60 (h:=fun H0=>ae 7 (h:=aM (c:=gA _ 0 _ 255 w oz oz oz oz) (k:=?_)))
 rintro _ w1 ⟨rfl,u1⟩
 have H1:=H0.call u1
 refine ae 0 (h:=ck (k:=ae 0 (h:=ck (us:=[ak 7,av Bs.zero.w0,av Bs.zero.w1,av Bs.zero.w2,av Bs.zero.w3,ak 0,ak (-1)]) (k:=ae 0 (h:=db aJ ([(⟨1,bM 0 255,0,0⟩:Nd),(⟨7,Bs.zero,0,-1⟩:Nd)]:List Nd) H1 (k:=fun w2 H2=>cY 10 [4,3,2,0] (fun B R L m e v=>∃k,∃o:List Nd,∃oa oc,e=(4,bJ k)::(3,aG oa o oc)::B∧aA w L v ([cg aJ 89 oa o oc]::R)∧(k≤l.length)∧(o=[⟨1,Vg,0,0⟩,⟨7,Bs.zero,0,-1⟩]++l.take k)∧(o.length=k+2)∧m=l.length-k) (i:=⟨0,([(⟨1,bM 0 255,0,0⟩:Nd),(⟨7,Bs.zero,0,-1⟩:Nd)]:List Nd),(some ⟨w1.heap.size,0,none⟩),([(⟨1,bM 0 255,0,0⟩:Nd),(⟨7,Bs.zero,0,-1⟩:Nd)]:List Nd).length,rfl,H2,om,(by rw [Md,List.take_zero];rfl),rfl,rfl⟩) (h:=?_)))))))
 rintro m1 Γ1 w3 ⟨k,o,oa,oc,rfl,H3,hk,ho,GR,rfl⟩
 refine aL 9 (fun lu=>?_) fun lu=>?_
 refine ae 8 (h:=fI k (rl.at H3) (k:=ae 0 (h:=zt (rl.at H3) (k:=ae 0 (h:=db aJ ([l.getD k cb]:List Nd) H3 (k:=fun w4 H4=>ae 0 (h:=fT H4 0 (H4.rt 1) (hb:=zK) (gk:=zK) (k:=fun a1 c1 w5 Vv=>?_))))))))
 have H5:=(Vv.drop 1).no
 exact ae 6 (h:=aX (k:=b6 2 (h:=by exact ⟨k+1,o++([l.getD k cb]:List Nd),a1,c1,rfl,(H5.re rfl),om,(by rw [ho,jH l oz,List.append_assoc]),gv,rfl⟩)))
 refine ae 5 (h:=ck (us:=[ak 5,av Bs.zero.w0,av Bs.zero.w1,av Bs.zero.w2,av Bs.zero.w3,ak 0,ak 0]) (k:=ae 0 (h:=db aJ ([(⟨5,Bs.zero,0,0⟩:Nd)]:List Nd) H3 (k:=fun w6 H6=>ae 0 (h:=fT H6 0 (H6.rt 1) (hb:=zK) (gk:=zK) (k:=fun a2 c2 w7 Vt=>?_))))))
 have H7:=(Vt.drop 1).no
 refine bE 4 (h:=?_)
 have e:o++[(⟨5,Bs.zero,0,0⟩:Nd)]=gO l:=by rw [ho,List.take_of_length_le oz];rfl
 rw [e] at H7
 exact ⟨a2,c2,(by rw [e]),(by have hh:=H7.iz 0;exact hh)⟩
theorem I8 (la:aO) (l:List Nd) (lc:Nat) (w:World) (rl:cd aJ w la l lc) (hl:l.length≤100000):
 Calls Tryz.prog 58 #[aG la l lc] w (bj fun v w'=>∃a2 c2,v=aG a2 l c2∧aE w [] w' [cg aJ 89 a2 l c2]):=by
 have dD:=rl.le
 refine cL Tryz.func58 (h:=fun H0=>?_)
 refine aR 9 rfl (yR Tryz.underlying24 rfl (aL 2 (fun RM=>?_) fun RM=>?_))
 refine bE 6 (h:=?_)
 have e:l=[]:=rl.P0 RM
 subst e
 exact ⟨none,0,rfl,ej H0⟩
 refine aR 4 rfl (ie (T:=aJ) rfl Tryz.underlying24 Ea fun w1 u1=>?_)
 have H1:=H0.nw u1
 refine ae 1 (h:=fT H1 0 (rl.at H1) (hb:=zK) (gk:=zK) (k:=fun a1 c1 w2 H2x=>?_))
 have H2:=H2x.no
 exact bE 4 (h:=⟨a1,c1,rfl,(by have hh:=H2.iz 0;exact hh)⟩)
theorem xW (la:aO) (l:List Nd) (lc:Nat) (aK:Int) (w:World) (rl:cd aJ w la l lc) (rT:cd fh w (some ⟨0,0,none⟩) rG 64) (Ud:aK≤1024):
 Calls Tryz.prog 59 #[aG la l lc,ak aK] w (bj fun v w'=>∃d:ar,∃er ca,∃cc na,∃nc ba bc,v= .tuple #[.agg #[aG ca d.cls cc,ak d.width,ak d.start,aG na d.next nc,aG ba d.acc bc],ak er]∧aE w [] w' [cg (aw .i64) 3 ca d.cls cc,cg (aw .i64) 3 na d.next nc,cg bu 4 ba d.acc bc]∧(gX l aK d er)):=by
 have dD:=rl.le
 have kH:=rT.le
 refine cL Tryz.func59 (h:=fun H0=>ae 2 (h:=da H0 (k:=fun w1 H1=>ae 6 (h:=aM (c:=Fe la l lc w1 (rl.at H1)) (k:=?_)))))
 rintro _ w2 ⟨bN,cv,LO,Tn,UD,lM,rfl,u2,CL⟩
 have H2:=H1.ns u2
 refine ae 3 (h:=da H2 (k:=fun w3 H3=>aU 0 (h:=bC H3 2 (k:=fun w4 H4=>aL 10 (fun C8=>?_) fun C8=>?_))))
 refine ae 2 (h:=ck (k:=aU 1 (h:=bC H4 0 (k:=fun w5 H5=>fx 4 (h1:=cK (H5.b 0)) (h2:=cZ) (h:=?_)))))
 have H6:=H5.nr (aw .i64) 3
 have H7:=H6.nr (aw .i64) 3
 have H8:=H7.nr bu 4
 exact ⟨C4,lM,none,0,none,0,none,0,rfl,(H8.se [3,4,5]),⟨_,_,_,_,CL,.inl ⟨by omega,rfl,rfl⟩⟩⟩
 refine ae 4 (h:=b8 (H4.b 2) (k:=ae 1 (h:=aM (c:=Hj bN LO _ _ _ _ w4 (H4.rt 1) (rT.at H4) (oB.okN (show oB l LO Tn UD 0 from (show lM=0 by omega)▸CL)) oz) (k:=?_))))
 rintro _ w6 ⟨Ry,qK,Jg,RH,Cm,Ig,rN,za,rfl,u6,CM⟩
 have H9:=H4.ns u6
 refine ae 3 (h:=da H9 (k:=fun w7 bO=>aU 0 (h:=bC bO 6 (k:=fun w8 bR=>aL 10 (fun wW=>?_) fun wW=>?_))))
 refine ae 2 (h:=ck (k:=aU 1 (h:=bC bR 0 (k:=fun w9 cm=>fx 4 (h1:=cK (cm.b 0)) (h2:=cZ) (h:=?_)))))
 have cW:=cm.nr (aw .i64) 3
 have cH:=cW.nr (aw .i64) 3
 have cI:=cH.nr bu 4
 exact ⟨C4,qK,none,0,none,0,none,0,rfl,(cI.se [7,8,9]),⟨_,_,_,_,CL,.inr ⟨by omega,_,_,CM,.inl ⟨by omega,rfl,rfl⟩⟩⟩⟩
 have cq:=bo.1 (oS.right (show oS LO Tn UD aK Ry 0 from (show qK=0 by omega)▸CM) oz)
 refine ae 4 (h:=b8 (bR.b 6) (k:=ae 0 (h:=aM (c:=Im Ry Jg Cm rN _ _ _ w8 (bR.rt 3) (bR.rt 4) (bR.rt 5) oz) (k:=?_))))
 rintro _ gK ⟨Jf,Jd,Ii,Ie,Ju,Jt,rfl,qZ⟩
 have cT:=bR.ns qZ
 refine aU 2 (h:=bC cT 0 (k:=fun iu dj=>fx 4 (h1:=cK (dj.b 0)) (h2:=cZ) (h:=?_)))
 have DG:=sQ (bo.2 cq)
 exact ⟨jP Ry,um Ry,Jf,Jd,Ii,Ie,Ju,Jt,rfl,(dj.se [7,8,9]),⟨_,_,_,_,CL,.inr ⟨by omega,_,_,CM,.inr ⟨by omega,DG.2,DG.1⟩⟩⟩⟩
theorem xT (la:aO) (l:List Nd) (lc:Nat) (aK:Int) (w:World) (rl:cd aJ w la l lc) (hl9:l.length≤100000) (Ud:aK≤1024):
 Calls Tryz.prog 61 #[aG la l lc,ak aK] w (bj fun v w'=>∃d:ar,∃er ca,∃cc na,∃nc ba bc,v= .tuple #[.agg #[aG ca d.cls cc,ak d.width,ak d.start,aG na d.next nc,aG ba d.acc bc],ak er]∧aE w [] w' [cg (aw .i64) 3 ca d.cls cc,cg (aw .i64) 3 na d.next nc,cg bu 4 ba d.acc bc]∧(gX l aK d er)):=by
 have dD:=rl.le
 refine cL Tryz.func61 (h:=fun H0=>ae 2 (h:=da H0 (k:=fun w1 H1=>ae 6 (h:=aM (c:=EE la l lc w1 (rl.at H1) oz) (k:=?_)))))
 rintro _ w2 ⟨bN,cv,LO,Tn,UD,lM,rfl,u2,CL⟩
 have H2:=H1.ns u2
 refine ae 3 (h:=da H2 (k:=fun w3 H3=>aU 0 (h:=bC H3 2 (k:=fun w4 H4=>aL 10 (fun C8=>?_) fun C8=>?_))))
 refine ae 2 (h:=ck (k:=aU 1 (h:=bC H4 0 (k:=fun w5 H5=>fx 4 (h1:=cK (H5.b 0)) (h2:=cZ) (h:=?_)))))
 have H6:=H5.nr (aw .i64) 3
 have H7:=H6.nr (aw .i64) 3
 have H8:=H7.nr bu 4
 exact ⟨C4,lM,none,0,none,0,none,0,rfl,(H8.se [3,4,5]),⟨_,_,_,_,CL,.inl ⟨by omega,rfl,rfl⟩⟩⟩
 refine ae 4 (h:=b8 (H4.b 2) (k:=ae 1 (h:=aM (c:=Eo bN LO _ _ _ _ w4 (H4.rt 1) (oB.okN (show oB l LO Tn UD 0 from (show lM=0 by omega)▸CL)) oz) (k:=?_))))
 rintro _ w6 ⟨Ry,gT,Jg,RH,Cm,Ig,rN,za,rfl,u6,CM⟩
 have H9:=H4.ns u6
 refine ae 3 (h:=da H9 (k:=fun w7 bO=>aU 0 (h:=bC bO 6 (k:=fun w8 bR=>cS 10 (fun wW=>?_) fun wW=>?_))))
 refine ae 2 (h:=ck (k:=aU 0 (h:=bC bR 0 (k:=fun w9 cm=>fx 4 (h1:=cK (cm.b 0)) (h2:=cZ) (h:=?_)))))
 simp only [show gT=false by simpa using wW,Bool.false_eq_true,if_false] at CM
 have cW:=cm.nr (aw .i64) 3
 have cH:=cW.nr (aw .i64) 3
 have cI:=cH.nr bu 4
 exact ⟨C4,5,none,0,none,0,none,0,rfl,(cI.se [7,8,9]),⟨_,_,_,_,CL,.inr ⟨by omega,_,_,CM,.inl ⟨by decide,rfl,rfl⟩⟩⟩⟩
 simp only [show gT=true by simpa using wW,if_true] at CM
 have cq:=oS.right CM oz
 refine ae 4 (h:=b8 (bR.b 6) (k:=ae 0 (h:=aM (c:=Mb Ry Jg Cm rN _ _ _ w8 (bR.rt 3) (bR.rt 4) (bR.rt 5) cq) (k:=?_))))
 rintro _ gK ⟨Jf,Jd,Ii,Ie,Ju,Jt,rfl,qZ⟩
 have cT:=bR.ns qZ
 exact aU 0 (h:=bC cT 0 (k:=fun iu dj=>fx 4 (h1:=cK (dj.b 0)) (h2:=cZ) (h:=⟨cJ Ry,0,Jf,Jd,Ii,Ie,Ju,Jt,rfl,(dj.se [7,8,9]),⟨_,_,_,_,CL,.inr ⟨by omega,_,_,CM,.inr ⟨rfl,rfl,rfl⟩⟩⟩⟩)))
theorem Kk (la:aO) (l:List Nd) (lc:Nat) (aK:Int) (w:World) (rl:cd aJ w la l lc) (rT:cd fh w (some ⟨0,0,none⟩) rG 64) (hl:l.length≤100000) (Ud:aK≤1024):
 Calls Tryz.prog 36 #[aG la l lc,ak aK] w (bj fun v w'=>∃p:oA,∃er ta,∃tc QZ,∃QY QV,∃QU Q1,∃Q0 OS,∃scc ON,∃OM OU,∃OT Dn,∃Dm Dj,∃Di DM DL,v= .tuple #[.agg #[aG ta p.tree tc,aG QZ p.fw.cls QY,ak p.fw.width,ak p.fw.start,aG QV p.fw.next QU,aG Q1 p.fw.acc Q0,aG OS p.se.cls scc,ak p.se.width,ak p.se.start,aG ON p.se.next OM,aG OU p.se.acc OT,aG Dn p.bk.cls Dm,ak p.bk.width,ak p.bk.start,aG Dj p.bk.next Di,aG DM p.bk.acc DL],ak er]∧aE w [] w' [cg aJ 89 ta p.tree tc,cg (aw .i64) 3 QZ p.fw.cls QY,cg (aw .i64) 3 QV p.fw.next QU,cg bu 4 Q1 p.fw.acc Q0,cg (aw .i64) 3 OS p.se.cls scc,cg (aw .i64) 3 ON p.se.next OM,cg bu 4 OU p.se.acc OT,cg (aw .i64) 3 Dn p.bk.cls Dm,cg (aw .i64) 3 Dj p.bk.next Di,cg bu 4 DM p.bk.acc DL]∧(Sm l aK p er)):=by
 have dD:=rl.le
 have kH:=rT.le
 refine cL Tryz.func36 (h:=fun H0=>ae 2 (h:=da H0 (k:=fun w1 H1=>ae 6 (h:=aM (c:=G9 la l lc w1 (rl.at H1)) (k:=?_)))))
 rintro _ w2 ⟨bN,cv,mV,lM,rfl,u2,XL⟩
 have H2:=H1.ns u2
 refine aL 14 (fun RL=>?_) fun RL=>?_
 refine ae 2 (h:=ck (k:=aU 1 (h:=bC H2 0 (k:=fun w3 H3=>fx 4 (h1:=cK (H3.b 0)) (h2:=cZ) (h:=?_)))))
 have H4:=H3.nr aJ 89
 have H5:=H4.nr (aw .i64) 3
 have H6:=H5.nr (aw .i64) 3
 have H7:=H6.nr bu 4
 have H8:=H7.nr (aw .i64) 3
 have H9:=H8.nr (aw .i64) 3
 have bO:=H9.nr bu 4
 have bR:=bO.nr (aw .i64) 3
 have cm:=bR.nr (aw .i64) 3
 have cW:=cm.nr bu 4
 exact ⟨iY,lM,none,0,none,0,none,0,none,0,none,0,none,0,none,0,none,0,none,0,none,0,rfl,(cW.se [2,3,4,5,6,7,8,9,10,11]),(.inl ⟨(XL.resolve_right (fun ⟨_,_,_,_,_,h9⟩=>by omega)).1,rfl,(XL.resolve_right (fun ⟨_,_,_,_,_,h9⟩=>by omega)).2.2⟩)⟩
 obtain ⟨T,yv,rR,zy,hot,_⟩:=XL.resolve_left (fun h9=>by omega)
 have al6:mV.length≤100000:=by rw [hot,gY,rR];exact hl
 refine ae 5 (h:=aM (c:=I8 la l lc w2 (rl.at H2) oz) (k:=?_))
 rintro _ w4 ⟨gW,jB,rfl,u4⟩
 have cH:=H2.ns u4
 refine ae 0 (h:=ck (k:=ae 0 (h:=da cH (k:=fun w5 cI=>aU 0 (h:=bC cI 3 (k:=fun w6 cT=>ae 7 (h:=ck (k:=ae 1 (h:=aM (c:=xX la l lc w6 (rl.at cT) oz) (k:=?_))))))))))
 rintro _ w7 ⟨kW,oj,rfl,u7⟩
 have dj:=cT.ns u7
 refine ae 1 (h:=ck (k:=ae 1 (h:=aM (c:=xX bN mV _ w7 (dj.rt 1) oz) (k:=?_))))
 rintro _ w8 ⟨pN,rL,rfl,u8⟩
 have dY:=dj.ns u8
 refine ae 1 (h:=ck (k:=ae 0 (h:=db aaI ([(⟨la,l.length,lc,w4.heap.size,1⟩:Tp),(⟨kW,(gO l).length,oj,w4.heap.size,6⟩:Tp),(⟨pN,(gO mV).length,rL,w4.heap.size,11⟩:Tp)]:List Tp) dY (k:=fun w9 eJ=>cG 4 [36,35,34,8,5,4,1] (h:=afP 1 3 (h:=ae 13 (h:=fI 0 (eJ.rt 6) (hj:=(by simp)) (k:=ae 0 (h:=zt (eJ.rt 6) (hj:=(by simp)) (k:=ae 0 (h:=da eJ (k:=fun gK dB=>aU 0 (h:=bC dB 7 (k:=fun iu gu=>eI 3 gu (h:=fun iW gQ=>cP 1 1 (gQ.b 7) (D:=fun _ hC=>aH hC) (h:=cP 1 3 (gQ.b 7) (D:=fun _ hC=>aH hC) (h:=c7 1 5 (D:=aM (c:=xW la l lc _ iW (rl.at gQ) (rT.at gQ) oz) (k:=?_)))))))))))))))))))
 rintro _ iV ⟨Ry,qK,Jg,RH,Cm,Ig,rN,za,rfl,xh,lH⟩
 have jy:=gQ.ns xh
 refine ⟨⟨(jy.b 7),trivial,trivial⟩,?_⟩
 refine c7 4 10 (D:=bC jy 3 (k:=fun lT lv=>?_))
 refine ⟨⟨trivial,trivial⟩,?_⟩
 refine aL 9 (fun Zg=>?_) fun Zg=>?_
 refine ae 2 (h:=ck (k:=aU 1 (h:=bC lv 0 (k:=fun qx j5=>fx 4 (h1:=cK (j5.b 0)) (h2:=cZ) (h:=?_)))))
 have kY:=j5.nr aJ 89
 have ja:=kY.nr (aw .i64) 3
 have lX:=ja.nr (aw .i64) 3
 have oV:=lX.nr bu 4
 have mJ:=oV.nr (aw .i64) 3
 have mI:=mJ.nr (aw .i64) 3
 have mH:=mI.nr bu 4
 have oM:=mH.nr (aw .i64) 3
 have qO:=oM.nr (aw .i64) 3
 have tN:=qO.nr bu 4
 exact ⟨iY,qK,none,0,none,0,none,0,none,0,none,0,none,0,none,0,none,0,none,0,none,0,rfl,(tN.se [11,12,13,14,15,16,17,18,19,20]),(.inr ⟨T,yv,rR,zy,hot▸(show eF l mV aK iY _ by first|exact eF.e3 lH oz py oz yz oz|exact eF.e2 lH oz py oz|exact eF.e1 lH oz)⟩)⟩
 refine ae 4 (h:=aX (k:=W8 2 [36,35,34,8,5,4,1] (h:=ae 13 (h:=fI 1 (lv.rt 6) (hj:=(by simp)) (k:=ae 0 (h:=zt (lv.rt 6) (hj:=(by simp)) (k:=ae 0 (h:=da lv (k:=fun qw zG=>aU 0 (h:=bC zG 11 (k:=fun uW xe=>eI 3 xe (h:=fun zI uT=>cP 1 1 (uT.b 11) (D:=fun _ hC=>aH hC) (h:=cP 1 3 (uT.b 11) (D:=fun _ hC=>aH hC) (h:=c7 1 5 (D:=aM (c:=xW kW (gO l) _ _ zI (uT.rt 4) (rT.at uT) oz) (k:=?_))))))))))))))))
 rintro _ zo ⟨d_2,UH,Jf,Jd,Ii,Ie,Ju,Jt,rfl,LG,py⟩
 have wh:=uT.ns LG
 refine ⟨⟨(wh.b 11),trivial,trivial⟩,?_⟩
 refine c7 4 10 (D:=bC wh 3 (k:=fun DV tM=>?_))
 refine ⟨⟨trivial,trivial⟩,?_⟩
 refine aL 9 (fun ail=>?_) fun ail=>?_
 refine ae 2 (h:=ck (k:=aU 1 (h:=bC tM 0 (k:=fun Od DO=>fx 4 (h1:=cK (DO.b 0)) (h2:=cZ) (h:=?_)))))
 have Lt:=DO.nr aJ 89
 have JL:=Lt.nr (aw .i64) 3
 have JK:=JL.nr (aw .i64) 3
 have JJ:=JK.nr bu 4
 have JI:=JJ.nr (aw .i64) 3
 have N5:=JI.nr (aw .i64) 3
 have zF:=N5.nr bu 4
 have SY:=zF.nr (aw .i64) 3
 have SX:=SY.nr (aw .i64) 3
 have SW:=SX.nr bu 4
 exact ⟨iY,UH,none,0,none,0,none,0,none,0,none,0,none,0,none,0,none,0,none,0,none,0,rfl,(SW.se [15,16,17,18,19,20,21,22,23,24]),(.inr ⟨T,yv,rR,zy,hot▸(show eF l mV aK iY _ by first|exact eF.e3 lH oz py oz yz oz|exact eF.e2 lH oz py oz|exact eF.e1 lH oz)⟩)⟩
 refine ae 4 (h:=aX (k:=W8 2 [36,35,34,8,5,4,1] (h:=ae 13 (h:=fI 2 (tM.rt 6) (hj:=(by simp)) (k:=ae 0 (h:=zt (tM.rt 6) (hj:=(by simp)) (k:=ae 0 (h:=da tM (k:=fun LD SV=>aU 0 (h:=bC SV 15 (k:=fun LC ZS=>eI 3 ZS (h:=fun Oc Ls=>cP 1 1 (Ls.b 15) (D:=fun _ hC=>aH hC) (h:=cP 1 3 (Ls.b 15) (D:=fun _ hC=>aH hC) (h:=c7 1 5 (D:=aM (c:=xW pN (gO mV) _ _ Oc (Ls.rt 5) (rT.at Ls) oz) (k:=?_))))))))))))))))
 rintro _ SA ⟨d_3,adF,Y8,Y7,Xo,Xn,Zx,Zw,rfl,u22,yz⟩
 have Lr:=Ls.ns u22
 refine ⟨⟨(Lr.b 15),trivial,trivial⟩,?_⟩
 refine c7 4 10 (D:=bC Lr 3 (k:=fun VD Sr=>?_))
 refine ⟨⟨trivial,trivial⟩,?_⟩
 refine aL 9 (fun adY=>?_) fun adY=>?_
 refine ae 2 (h:=ck (k:=aU 1 (h:=bC Sr 0 (k:=fun Ob WN=>fx 4 (h1:=cK (WN.b 0)) (h2:=cZ) (h:=?_)))))
 have WK:=WN.nr aJ 89
 have Vw:=WK.nr (aw .i64) 3
 have H60:=Vw.nr (aw .i64) 3
 have H61:=H60.nr bu 4
 have H62:=H61.nr (aw .i64) 3
 have H63:=H62.nr (aw .i64) 3
 have H64:=H63.nr bu 4
 have H65:=H64.nr (aw .i64) 3
 have H66:=H65.nr (aw .i64) 3
 have H67:=H66.nr bu 4
 exact ⟨iY,adF,none,0,none,0,none,0,none,0,none,0,none,0,none,0,none,0,none,0,none,0,rfl,(H67.se [19,20,21,22,23,24,25,26,27,28]),(.inr ⟨T,yv,rR,zy,hot▸(show eF l mV aK iY _ by first|exact eF.e3 lH oz py oz yz oz|exact eF.e2 lH oz py oz|exact eF.e1 lH oz)⟩)⟩
 exact ae 4 (h:=aX (k:=W8 2 [36,35,34,8,5,4,1] (h:=ae 11 (h:=b8 (Sr.b 3) (k:=aU 0 (h:=bC Sr 0 (k:=fun Oa H68=>fx 4 (h1:=cK (H68.b 0)) (h2:=cZ) (h:=⟨⟨l,Ry,d_2,d_3⟩,0,gW,jB,Jg,RH,Cm,Ig,rN,za,Jf,Jd,Ii,Ie,Ju,Jt,Y8,Y7,Xo,Xn,Zx,Zw,rfl,(H68.se [2,8,9,10,12,13,14,16,17,18]),(.inr ⟨T,yv,rR,zy,hot▸(show eF l mV aK _ _ from eF.ok lH oz py oz yz oz)⟩)⟩))))))))
theorem TA (la:aO) (l:List Nd) (lc:Nat) (aK:Int) (T:Tr) (w:World) (hp:Hp w [cg aJ 89 la l lc]) (hw:T.wk) (hf:T.flat=l) (hl:l.length≤512) (Ud:aK≤1024):
 Calls Tryz.prog 37 #[aG la l lc,ak aK] w (bj fun v w'=>∃p:oA,∃er ta,∃tc QZ,∃QY QV,∃QU Q1,∃Q0 OS,∃scc ON,∃OM OU,∃OT Dn,∃Dm Dj,∃Di DM DL,v= .tuple #[.agg #[aG ta p.tree tc,aG QZ p.fw.cls QY,ak p.fw.width,ak p.fw.start,aG QV p.fw.next QU,aG Q1 p.fw.acc Q0,aG OS p.se.cls scc,ak p.se.width,ak p.se.start,aG ON p.se.next OM,aG OU p.se.acc OT,aG Dn p.bk.cls Dm,ak p.bk.width,ak p.bk.start,aG Dj p.bk.next Di,aG DM p.bk.acc DL],ak er]∧aE w [cg aJ 89 la l lc] w' [cg aJ 89 ta p.tree tc,cg (aw .i64) 3 QZ p.fw.cls QY,cg (aw .i64) 3 QV p.fw.next QU,cg bu 4 Q1 p.fw.acc Q0,cg (aw .i64) 3 OS p.se.cls scc,cg (aw .i64) 3 ON p.se.next OM,cg bu 4 OU p.se.acc OT,cg (aw .i64) 3 Dn p.bk.cls Dm,cg (aw .i64) 3 Dj p.bk.next Di,cg bu 4 DM p.bk.acc DL]∧((cO (gO l)=false∧p=iY∧er=4)∨(cO (gO l)=true∧eF l (bz T).flat aK p er))):=by
 have Yg:(gO l).length≤1000:=(by rw [lQ];omega)
 have GW:((bz T).flat).length≤512:=(by rw [gY,hf];exact hl)
 have amU:(gO (bz T).flat).length≤1000:=(by rw [lQ];omega)
 refine uZ hp Tryz.func37 (h:=fun H0=>ae 2 (h:=da H0 (k:=fun w1 H1=>ae 7 (h:=aM (c:=xU la l lc w1 (H1.rt 0) oz) (k:=?_)))))
 rintro _ w2 ⟨bN,cv,rfl,u2⟩
 have H2:=H1.ns u2
 refine ae 0 (h:=aM (c:=xI bN (gO l) _ w2 (H2.rt 2)) (k:=?_))
 rintro _ w3 ⟨rfl,u3⟩
 have H3:=H2.call u3
 refine cS 3 (fun wV=>?_) fun wV=>?_
 refine ae 2 (h:=ck (k:=aU 0 (h:=bC H3 1 (k:=fun w4 H4=>fx 4 (h1:=cK (H4.b 1)) (h2:=cZ) (h:=?_)))))
 have H5:=H4.nr aJ 89
 have H6:=H5.nr (aw .i64) 3
 have H7:=H6.nr (aw .i64) 3
 have H8:=H7.nr bu 4
 have H9:=H8.nr (aw .i64) 3
 have bO:=H9.nr (aw .i64) 3
 have bR:=bO.nr bu 4
 have cm:=bR.nr (aw .i64) 3
 have cW:=cm.nr (aw .i64) 3
 have cH:=cW.nr bu 4
 exact ⟨iY,4,none,0,none,0,none,0,none,0,none,0,none,0,none,0,none,0,none,0,none,0,rfl,(cH.se [3,4,5,6,7,8,9,10,11,12]),(.inl ⟨by simpa using wV,rfl,rfl⟩)⟩
 refine ae 6 (h:=aM (c:=xT la l lc _ w3 (H3.rt 0) oz oz) (k:=?_))
 rintro _ w5 ⟨Ry,lM,Jg,RH,Cm,Ig,rN,za,rfl,u5,lH⟩
 have cI:=H3.ns u5
 refine ae 3 (h:=da cI (k:=fun w6 cT=>aU 0 (h:=bC cT 6 (k:=fun w7 dj=>aL 10 (fun SP=>?_) fun SP=>?_))))
 refine ae 2 (h:=ck (k:=aU 1 (h:=bC dj 1 (k:=fun w8 dY=>fx 4 (h1:=cK (dY.b 1)) (h2:=cZ) (h:=?_)))))
 have eJ:=dY.nr aJ 89
 have dB:=eJ.nr (aw .i64) 3
 have gu:=dB.nr (aw .i64) 3
 have gQ:=gu.nr bu 4
 have jy:=gQ.nr (aw .i64) 3
 have lv:=jy.nr (aw .i64) 3
 have j5:=lv.nr bu 4
 have kY:=j5.nr (aw .i64) 3
 have ja:=kY.nr (aw .i64) 3
 have lX:=ja.nr bu 4
 exact ⟨iY,lM,none,0,none,0,none,0,none,0,none,0,none,0,none,0,none,0,none,0,none,0,rfl,(lX.se [7,8,9,10,11,12,13,14,15,16]),(.inr ⟨(by simpa using wV),(show eF l (bz T).flat aK _ _ from eF.e1 lH oz)⟩)⟩
 refine ae 5 (h:=aM (c:=xU la l lc w7 (dj.rt 0) oz) (k:=?_))
 rintro _ w9 ⟨gW,jB,rfl,u9⟩
 have oV:=dj.ns u9
 refine ae 1 (h:=aM (c:=xT gW (gO l) _ _ w9 (oV.rt 7) oz oz) (k:=?_))
 rintro _ gK ⟨d_2,qK,Jf,Jd,Ii,Ie,Ju,Jt,rfl,qZ,py⟩
 have mJ:=oV.ns qZ
 refine ae 3 (h:=da mJ (k:=fun iu mI=>aU 0 (h:=bC mI 11 (k:=fun iW mH=>aL 10 (fun DJ=>?_) fun DJ=>?_))))
 refine ae 2 (h:=ck (k:=aU 1 (h:=bC mH 1 (k:=fun iV oM=>cG 3 [5,4] (h:=fx 1 (h1:=cK (oM.b 1)) (h2:=cZ) (h:=?_))))))
 have qO:=oM.nr aJ 89
 have tN:=qO.nr (aw .i64) 3
 have zG:=tN.nr (aw .i64) 3
 have xe:=zG.nr bu 4
 have uT:=xe.nr (aw .i64) 3
 have wh:=uT.nr (aw .i64) 3
 have tM:=wh.nr bu 4
 have DO:=tM.nr (aw .i64) 3
 have Lt:=DO.nr (aw .i64) 3
 have JL:=Lt.nr bu 4
 exact ⟨iY,qK,none,0,none,0,none,0,none,0,none,0,none,0,none,0,none,0,none,0,none,0,rfl,(JL.se [12,13,14,15,16,17,18,19,20,21]),(.inr ⟨(by simpa using wV),(show eF l (bz T).flat aK _ _ from eF.e2 lH oz py oz)⟩)⟩
 refine ae 5 (h:=aM (c:=Ho la l lc T iW (mH.rt 0) hw hf hl) (k:=?_))
 rintro _ lT ⟨kW,oj,rfl,S5⟩
 have JK:=mH.ns S5
 refine ae 0 (h:=aM (c:=xU kW ((bz T).flat) _ lT (JK.rt 12) oz) (k:=?_))
 rintro _ qx ⟨pN,rL,rfl,Oj⟩
 have JJ:=JK.ns Oj
 refine ae 1 (h:=aM (c:=xT pN (gO ((bz T).flat)) _ _ qx (JJ.rt 13) oz oz) (k:=?_))
 rintro _ qw ⟨d_3,UH,Y8,Y7,Xo,Xn,Zx,Zw,rfl,u16,yz⟩
 have JI:=JJ.ns u16
 refine ae 3 (h:=da JI (k:=fun uW N5=>aU 0 (h:=bC N5 17 (k:=fun zI zF=>cG 3 [11,10,8,6,5,4,0] (h:=aL 7 (fun Aj=>?_) fun Aj=>?_)))))
 refine ae 2 (h:=ck (k:=aU 1 (h:=bC zF 1 (k:=fun zo SY=>fx 4 (h1:=cK (SY.b 1)) (h2:=cZ) (h:=?_)))))
 have SX:=SY.nr aJ 89
 have SW:=SX.nr (aw .i64) 3
 have SV:=SW.nr (aw .i64) 3
 have ZS:=SV.nr bu 4
 have Ls:=ZS.nr (aw .i64) 3
 have Lr:=Ls.nr (aw .i64) 3
 have Sr:=Lr.nr bu 4
 have WN:=Sr.nr (aw .i64) 3
 have WK:=WN.nr (aw .i64) 3
 have Vw:=WK.nr bu 4
 exact ⟨iY,UH,none,0,none,0,none,0,none,0,none,0,none,0,none,0,none,0,none,0,none,0,rfl,(Vw.se [18,19,20,21,22,23,24,25,26,27]),(.inr ⟨(by simpa using wV),(show eF l (bz T).flat aK _ _ from eF.e3 lH oz py oz yz oz)⟩)⟩
 exact ae 5 (h:=b8 (zF.b 6) (k:=ae 0 (h:=b8 (zF.b 11) (k:=ae 0 (h:=b8 (zF.b 17) (k:=ae 0 (h:=ck (k:=aU 0 (h:=bC zF 1 (k:=fun DV H60=>fx 4 (h1:=cK (H60.b 1)) (h2:=cZ) (h:=⟨⟨l,Ry,d_2,d_3⟩,0,la,lc,Jg,RH,Cm,Ig,rN,za,Jf,Jd,Ii,Ie,Ju,Jt,Y8,Y7,Xo,Xn,Zx,Zw,rfl,(H60.se [0,3,4,5,8,9,10,14,15,16]),(.inr ⟨(by simpa using wV),(show eF l (bz T).flat aK _ _ from eF.ok lH oz py oz yz oz)⟩)⟩)))))))))))
theorem LY (aa:aO) (a:List Nd) (ac:Nat) (ba:aO) (b:List Nd) (bc:Nat) (w:World) (ra:cd aJ w aa a ac) (rb:cd aJ w ba b bc):
 Calls Tryz.prog 38 #[aG aa a ac,aG ba b bc] w (bj fun v w'=>v= .bool (decide (a=b))∧aE w [] w' []):=by
 have VT:=ra.le
 have abJ:=rb.le
 refine cL Tryz.func38 (h:=fun H0=>aL 15 (fun Ws=>?_) fun Ws=>?_)
 exact bE 6 (h:=⟨(by rw [decide_eq_false (by rintro rfl;omega)]),H0.ag⟩)
 refine cY 9 [5,4,0,1] (fun B R L m e v=>∃k,e=(5,bJ k)::B∧aA w L v (R)∧(k≤a.length)∧(∀i,i<k→a.getD i cb=b.getD i cb)∧m=a.length-k) (i:=⟨0,rfl,H0,om,(by intro i hi;omega),rfl⟩) (h:=?_)
 rintro m1 Γ1 w1 ⟨k,rfl,H1,hk,he,rfl⟩
 refine aL 9 (fun Jh=>?_) fun Jh=>?_
 refine eI 5 H1 (h:=fun w2 H2=>bY 2 2 (ra.at H2) (D:=fun _ hC=>fI k hC) (h:=bY 0 3 (ra.at H2) (D:=fun _ hC=>zt hC) (h:=bY 2 6 (rb.at H2) (D:=fun _ hC=>fI k hC) (h:=bY 0 7 (rb.at H2) (D:=fun _ hC=>zt hC) (h:=?_)))))
 refine mN 0 8 ⟨_,_,_,rfl,rfl,rfl,rfl,rfl,rfl⟩ (fun _=>YY (a.getD k cb) (b.getD k cb) rfl rfl Tryz.underlying89 ⟨by decide,by decide,by decide,by decide⟩ ⟨rfl,rfl,rfl,rfl⟩ Tryz.underlying3 Tryz.underlying3 Tryz.underlying3 Tryz.underlying87 Hc Tryz.underlying85 km iX iX ⟨rfl,rfl⟩) (aL 2 (fun Gh=>?_) fun Gh=>?_)
 exact bE 6 (h:=⟨(by rw [decide_eq_false (by rintro rfl;exact Gh rfl)]),H2.ag⟩)
 exact ae 5 (h:=aX (k:=b6 2 (h:=by exact ⟨k+1,rfl,H2,om,(by exact jw he (by simpa using Gh)),rfl⟩)))
 exact bE 8 (h:=⟨(by rw [decide_eq_true (eM (d:=cb) oz (fun i hi=>he i oz))]),H1.ag⟩)
theorem kK (z:ByteArray) (aK:Int) (w:World) (rT:cd fh w (some ⟨0,0,none⟩) rG 64) (lw:Laid w):
 Calls Tryz.prog 11 #[.string z,ak aK] w (bj fun v w'=>∃p:oA,∃at_ er,∃ta tc,∃QZ QY,∃QV QU,∃Q1 Q0,∃OS scc,∃ON OM,∃OU OT,∃Dn Dm,∃Dj Di,∃DM DL,v= .tuple #[.agg #[aG ta p.tree tc,aG QZ p.fw.cls QY,ak p.fw.width,ak p.fw.start,aG QV p.fw.next QU,aG Q1 p.fw.acc Q0,aG OS p.se.cls scc,ak p.se.width,ak p.se.start,aG ON p.se.next OM,aG OU p.se.acc OT,aG Dn p.bk.cls Dm,ak p.bk.width,ak p.bk.start,aG Dj p.bk.next Di,aG DM p.bk.acc DL],ak at_,ak er]∧aE w [] w' [cg aJ 89 ta p.tree tc,cg (aw .i64) 3 QZ p.fw.cls QY,cg (aw .i64) 3 QV p.fw.next QU,cg bu 4 Q1 p.fw.acc Q0,cg (aw .i64) 3 OS p.se.cls scc,cg (aw .i64) 3 ON p.se.next OM,cg bu 4 OU p.se.acc OT,cg (aw .i64) 3 Dn p.bk.cls Dm,cg (aw .i64) 3 Dj p.bk.next Di,cg bu 4 DM p.bk.acc DL]∧(uU z aK p at_ er)):=by
 have kH:=rT.le
 refine cL Tryz.func11 (h:=fun H0=>ae 2 (h:=da H0 (k:=fun w1 H1=>ae 7 (h:=aM (c:=EM _ w1 (rT.at H1) (lw.at H1)) (k:=?_)))))
 rintro _ w2 ⟨bN,cv,mV,oK,lM,rfl,u2,jo⟩
 have H2:=H1.ns u2
 have GR:=(lW.len jo).1
 have Yg:=lQ mV
 refine aL 18 (fun c59=>?_) fun c59=>?_
 refine ae 2 (h:=ck (k:=aU 2 (h:=bC H2 0 (k:=fun w3 H3=>vT 5 (h1:=cK (H3.b 0)) (h2:=cZ) (h3:=cZ) (h:=?_)))))
 have H4:=H3.nr aJ 89
 have H5:=H4.nr (aw .i64) 3
 have H6:=H5.nr (aw .i64) 3
 have H7:=H6.nr bu 4
 have H8:=H7.nr (aw .i64) 3
 have H9:=H8.nr (aw .i64) 3
 have bO:=H9.nr bu 4
 have bR:=bO.nr (aw .i64) 3
 have cm:=bR.nr (aw .i64) 3
 have cW:=cm.nr bu 4
 exact ⟨iY,oK,lM,none,0,none,0,none,0,none,0,none,0,none,0,none,0,none,0,none,0,none,0,rfl,(cW.se [2,3,4,5,6,7,8,9,10,11]),⟨_,_,_,jo,.inl ⟨by omega,rfl,rfl,rfl⟩⟩⟩
 refine bZ 5 26 (fun g61=>?_) fun g61=>?_
 refine ae 9 (h:=ck (k:=aU 0 (h:=bC H2 0 (k:=fun w4 cH=>vT 5 (h1:=cK (cH.b 0)) (h2:=cZ) (h3:=cZ) (h:=?_)))))
 have cI:=cH.nr aJ 89
 have cT:=cI.nr (aw .i64) 3
 have dj:=cT.nr (aw .i64) 3
 have dY:=dj.nr bu 4
 have eJ:=dY.nr (aw .i64) 3
 have dB:=eJ.nr (aw .i64) 3
 have gu:=dB.nr bu 4
 have gQ:=gu.nr (aw .i64) 3
 have jy:=gQ.nr (aw .i64) 3
 have lv:=jy.nr bu 4
 exact ⟨iY,0,1,none,0,none,0,none,0,none,0,none,0,none,0,none,0,none,0,none,0,none,0,rfl,(lv.se [2,3,4,5,6,7,8,9,10,11]),⟨_,_,_,jo,.inr ⟨by omega,.inl ⟨by omega,rfl,rfl,rfl⟩⟩⟩⟩
 refine aL 6 (fun Zf=>?_) fun Zf=>?_
 refine ae 2 (h:=ck (k:=aU 0 (h:=bC H2 0 (k:=fun w5 j5=>vT 5 (h1:=cK (j5.b 0)) (h2:=cZ) (h3:=cZ) (h:=?_)))))
 have kY:=j5.nr aJ 89
 have ja:=kY.nr (aw .i64) 3
 have lX:=ja.nr (aw .i64) 3
 have oV:=lX.nr bu 4
 have mJ:=oV.nr (aw .i64) 3
 have mI:=mJ.nr (aw .i64) 3
 have mH:=mI.nr bu 4
 have oM:=mH.nr (aw .i64) 3
 have qO:=oM.nr (aw .i64) 3
 have tN:=qO.nr bu 4
 exact ⟨iY,0,1,none,0,none,0,none,0,none,0,none,0,none,0,none,0,none,0,none,0,none,0,rfl,(tN.se [2,3,4,5,6,7,8,9,10,11]),⟨_,_,_,jo,.inr ⟨by omega,.inl ⟨by omega,rfl,rfl,rfl⟩⟩⟩⟩
 refine ae 3 (h:=aM (c:=xX bN mV _ w2 (H2.rt 1) oz) (k:=?_))
 rintro _ w6 ⟨gW,jB,rfl,u6⟩
 have zG:=H2.ns u6
 refine ae 0 (h:=aM (c:=q6 gW (gO mV) _ w6 (zG.rt 2)) (k:=?_))
 rintro _ w7 ⟨rfl,u7⟩
 have xe:=zG.call u7
 refine cS 4 (fun Gk=>?_) fun Gk=>?_
 refine ae 2 (h:=ck (k:=aU 0 (h:=bC xe 0 (k:=fun w8 uT=>vT 5 (h1:=cK (uT.b 0)) (h2:=cZ) (h3:=cZ) (h:=?_)))))
 have wh:=uT.nr aJ 89
 have tM:=wh.nr (aw .i64) 3
 have DO:=tM.nr (aw .i64) 3
 have Lt:=DO.nr bu 4
 have JL:=Lt.nr (aw .i64) 3
 have JK:=JL.nr (aw .i64) 3
 have JJ:=JK.nr bu 4
 have JI:=JJ.nr (aw .i64) 3
 have N5:=JI.nr (aw .i64) 3
 have zF:=N5.nr bu 4
 exact ⟨iY,0,4,none,0,none,0,none,0,none,0,none,0,none,0,none,0,none,0,none,0,none,0,rfl,(zF.se [3,4,5,6,7,8,9,10,11,12]),⟨_,_,_,jo,.inr ⟨by omega,.inr ⟨by omega,by omega,.inl ⟨by simpa using Gk,rfl,rfl,rfl⟩⟩⟩⟩⟩
 refine ae 7 (h:=aM (c:=Kk bN mV _ _ w7 (xe.rt 1) (rT.at xe) oz oz) (k:=?_))
 rintro _ w9 ⟨Kj,qK,BU,D7,vE,Bu,vy,Bq,vF,Bv,vb,AW,u0,AP,vc,AX,vL,BI,vK,BH,vM,BJ,rfl,u9,vt⟩
 have SY:=xe.ns u9
 exact ae 3 (h:=da SY (k:=fun gK SX=>aU 0 (h:=bC SX 13 (k:=fun iu SW=>cG 3 [9,10,6,5,4] (h:=ae 2 (h:=b8 (SW.b 13) (k:=aU 1 (h:=bC SW 0 (k:=fun iW SV=>vT 5 (h1:=cK (SV.b 0)) (h2:=cZ) (h3:=cZ) (h:=⟨Kj,0,qK,BU,D7,vE,Bu,vy,Bq,vF,Bv,vb,AW,u0,AP,vc,AX,vL,BI,vK,BH,vM,BJ,rfl,(SV.se [3,4,5,6,7,8,9,10,11,12]),⟨_,_,_,jo,.inr ⟨by omega,.inr ⟨by omega,by omega,.inr ⟨by simpa using Gk,rfl,vt⟩⟩⟩⟩⟩))))))))))
theorem ss (z:ByteArray) (aK:Int) (w:World):
 Calls Tryz.prog 12 #[.string z,ak aK] w (bj fun v w'=>∃p:oA,∃at_ er,∃ta tc,∃QZ QY,∃QV QU,∃Q1 Q0,∃OS scc,∃ON OM,∃OU OT,∃Dn Dm,∃Dj Di,∃DM DL,v= .tuple #[.agg #[aG ta p.tree tc,aG QZ p.fw.cls QY,ak p.fw.width,ak p.fw.start,aG QV p.fw.next QU,aG Q1 p.fw.acc Q0,aG OS p.se.cls scc,ak p.se.width,ak p.se.start,aG ON p.se.next OM,aG OU p.se.acc OT,aG Dn p.bk.cls Dm,ak p.bk.width,ak p.bk.start,aG Dj p.bk.next Di,aG DM p.bk.acc DL],ak at_,ak er]∧aE w [] w' [cg aJ 89 ta p.tree tc,cg (aw .i64) 3 QZ p.fw.cls QY,cg (aw .i64) 3 QV p.fw.next QU,cg bu 4 Q1 p.fw.acc Q0,cg (aw .i64) 3 OS p.se.cls scc,cg (aw .i64) 3 ON p.se.next OM,cg bu 4 OU p.se.acc OT,cg (aw .i64) 3 Dn p.bk.cls Dm,cg (aw .i64) 3 Dj p.bk.next Di,cg bu 4 DM p.bk.acc DL]∧(uU z aK p at_ er)):=by
 refine cL Tryz.func12 (h:=fun H0=>ae 2 (h:=da H0 (k:=fun w1 H1=>ae 7 (h:=aM (c:=sq _ w1) (k:=?_)))))
 rintro _ w2 ⟨bN,cv,mV,oK,lM,rfl,u2,jo⟩
 have H2:=H1.ns u2
 refine aL 16 (fun Lh=>?_) fun Lh=>?_
 refine ae 2 (h:=ck (k:=aU 2 (h:=bC H2 0 (k:=fun w3 H3=>vT 5 (h1:=cK (H3.b 0)) (h2:=cZ) (h3:=cZ) (h:=?_)))))
 have H4:=H3.nr aJ 89
 have H5:=H4.nr (aw .i64) 3
 have H6:=H5.nr (aw .i64) 3
 have H7:=H6.nr bu 4
 have H8:=H7.nr (aw .i64) 3
 have H9:=H8.nr (aw .i64) 3
 have bO:=H9.nr bu 4
 have bR:=bO.nr (aw .i64) 3
 have cm:=bR.nr (aw .i64) 3
 have cW:=cm.nr bu 4
 exact ⟨iY,oK,lM,none,0,none,0,none,0,none,0,none,0,none,0,none,0,none,0,none,0,none,0,rfl,(cW.se [2,3,4,5,6,7,8,9,10,11]),⟨_,_,_,jo,.inl ⟨by omega,rfl,rfl,rfl⟩⟩⟩
 refine bZ 8 25 (fun g63=>?_) fun g63=>?_
 refine ae 8 (h:=ck (k:=aU 0 (h:=bC H2 0 (k:=fun w4 cH=>vT 5 (h1:=cK (cH.b 0)) (h2:=cZ) (h3:=cZ) (h:=?_)))))
 have cI:=cH.nr aJ 89
 have cT:=cI.nr (aw .i64) 3
 have dj:=cT.nr (aw .i64) 3
 have dY:=dj.nr bu 4
 have eJ:=dY.nr (aw .i64) 3
 have dB:=eJ.nr (aw .i64) 3
 have gu:=dB.nr bu 4
 have gQ:=gu.nr (aw .i64) 3
 have jy:=gQ.nr (aw .i64) 3
 have lv:=jy.nr bu 4
 exact ⟨iY,0,1,none,0,none,0,none,0,none,0,none,0,none,0,none,0,none,0,none,0,none,0,rfl,(lv.se [2,3,4,5,6,7,8,9,10,11]),⟨_,_,_,jo,.inr ⟨by omega,.inl ⟨by omega,rfl,rfl,rfl⟩⟩⟩⟩
 refine aL 5 (fun Gk=>?_) fun Gk=>?_
 refine ae 2 (h:=ck (k:=aU 0 (h:=bC H2 0 (k:=fun w5 j5=>vT 5 (h1:=cK (j5.b 0)) (h2:=cZ) (h3:=cZ) (h:=?_)))))
 have kY:=j5.nr aJ 89
 have ja:=kY.nr (aw .i64) 3
 have lX:=ja.nr (aw .i64) 3
 have oV:=lX.nr bu 4
 have mJ:=oV.nr (aw .i64) 3
 have mI:=mJ.nr (aw .i64) 3
 have mH:=mI.nr bu 4
 have oM:=mH.nr (aw .i64) 3
 have qO:=oM.nr (aw .i64) 3
 have tN:=qO.nr bu 4
 exact ⟨iY,0,1,none,0,none,0,none,0,none,0,none,0,none,0,none,0,none,0,none,0,none,0,rfl,(tN.se [2,3,4,5,6,7,8,9,10,11]),⟨_,_,_,jo,.inr ⟨by omega,.inl ⟨by omega,rfl,rfl,rfl⟩⟩⟩⟩
 obtain ⟨⟨T,yv,zy,rR⟩,hl5,_⟩:=lW.tree (show lW z mV oK 0 from (show lM=0 by omega)▸jo)
 refine ae 6 (h:=aM (c:=TA bN mV _ _ T w2 (H2.dH 1) yv rR hl5 oz) (k:=?_))
 rintro _ w6 ⟨Kj,qK,BU,D7,vE,Bu,vy,Bq,vF,Bv,vb,AW,u0,AP,vc,AX,vL,BI,vK,BH,vM,BJ,rfl,u6,vt⟩
 have zG:=H2.ox 1 1 u6
 exact ae 3 (h:=da zG (k:=fun w7 xe=>aU 0 (h:=bC xe 11 (k:=fun w8 uT=>ae 5 (h:=b8 (uT.b 11) (k:=aU 1 (h:=bC uT 0 (k:=fun w9 wh=>cG 4 [6,5,4] (h:=vT 1 (h1:=cK (wh.b 0)) (h2:=cZ) (h3:=cZ) (h:=⟨Kj,0,qK,BU,D7,vE,Bu,vy,Bq,vF,Bv,vb,AW,u0,AP,vc,AX,vL,BI,vK,BH,vM,BJ,rfl,(wh.se [1,2,3,4,5,6,7,8,9,10]),(vt.elim (fun ⟨h1,h2,h3⟩=>⟨_,_,_,jo,.inr ⟨by omega,.inr ⟨by omega,by omega,.inl ⟨h1,h2,rfl,h3⟩⟩⟩⟩) (fun ⟨h1,h2⟩=>⟨_,_,_,jo,.inr ⟨by omega,.inr ⟨by omega,by omega,.inr ⟨h1,rfl,.inr ⟨T,yv,rR,zy,h2⟩⟩⟩⟩⟩))⟩))))))))))
theorem xS (ZP:aO) (aT:List Nd) (ZO:Nat) (aF:ar) (JB:aO) (JA:aO) (JC:aO) (Sf:Nat) (Se:Nat) (Sg:Nat) (aS:ar) (Jy:aO) (Jx:aO) (Jz:aO) (Sc:Nat) (Sa:Nat) (Sd:Nat) (aB:ar) (JE:aO) (JD:aO) (JF:aO) (Si:Nat) (Sh:Nat) (Sj:Nat) (bTa:aO) (bT:List Nd) (bTc:Nat) (bF:ar) (ZC:aO) (ZB:aO) (ZD:aO) (aek:Nat) (aej:Nat) (ael:Nat) (bS:ar) (Zz:aO) (Zy:aO) (ZA:aO) (aeh:Nat) (aeg:Nat) (aei:Nat) (bB:ar) (ZF:aO) (ZE:aO) (ZG:aO) (aen:Nat) (aem:Nat) (aeo:Nat) (w:World) (raT:cd aJ w ZP aT ZO) (Pc:cd (aw .i64) w JB aF.cls Sf) (O2:cd (aw .i64) w JA aF.next Se) (Pg:cd bu w JC aF.acc Sg) (Pb:cd (aw .i64) w Jy aS.cls Sc) (O1:cd (aw .i64) w Jx aS.next Sa) (Pf:cd bu w Jz aS.acc Sd) (Pd:cd (aw .i64) w JE aB.cls Si) (O3:cd (aw .i64) w JD aB.next Sh) (Ph:cd bu w JF aB.acc Sj) (rbT:cd aJ w bTa bT bTc) (abd:cd (aw .i64) w ZC bF.cls aek) (aa2:cd (aw .i64) w ZB bF.next aej) (abi:cd bu w ZD bF.acc ael) (abb:cd (aw .i64) w Zz bS.cls aeh) (aa1:cd (aw .i64) w Zy bS.next aeg) (abh:cd bu w ZA bS.acc aei) (abe:cd (aw .i64) w ZF bB.cls aen) (aa3:cd (aw .i64) w ZE bB.next aem) (abj:cd bu w ZG bB.acc aeo):
 Calls Tryz.prog 13 #[.agg #[aG ZP aT ZO,aG JB aF.cls Sf,ak aF.width,ak aF.start,aG JA aF.next Se,aG JC aF.acc Sg,aG Jy aS.cls Sc,ak aS.width,ak aS.start,aG Jx aS.next Sa,aG Jz aS.acc Sd,aG JE aB.cls Si,ak aB.width,ak aB.start,aG JD aB.next Sh,aG JF aB.acc Sj],.agg #[aG bTa bT bTc,aG ZC bF.cls aek,ak bF.width,ak bF.start,aG ZB bF.next aej,aG ZD bF.acc ael,aG Zz bS.cls aeh,ak bS.width,ak bS.start,aG Zy bS.next aeg,aG ZA bS.acc aei,aG ZF bB.cls aen,ak bB.width,ak bB.start,aG ZE bB.next aem,aG ZG bB.acc aeo]] w (bj fun v w'=>v= .bool (AY aT aF aS aB bT bF bS bB)∧aE w [] w' []):=by
 have Xz:=raT.le
 have TU:=Pc.le
 have TR:=O2.le
 have TX:=Pg.le
 have TT:=Pb.le
 have TQ:=O1.le
 have TW:=Pf.le
 have TV:=Pd.le
 have TS:=O3.le
 have TY:=Ph.le
 have agf:=rbT.le
 have aeT:=abd.le
 have aeP:=aa2.le
 have aeW:=abi.le
 have aeS:=abb.le
 have aeO:=aa1.le
 have aeV:=abh.le
 have aeU:=abe.le
 have aeQ:=aa3.le
 have aeX:=abj.le
 refine cL Tryz.func13 (h:=fun H0=>ae 2 (h:=gI H0 (k:=fun w1 H1=>ae 0 (h:=gI H1 (k:=fun w2 H2=>ae 6 (h:=aH (H2.b 0) (k:=ae 1 (h:=aH (H2.b 1) (k:=ae 0 (h:=aM (c:=LY ZP aT ZO bTa bT bTc w2 (raT.at H2) (rbT.at H2)) (k:=?_)))))))))))
 rintro _ w3 ⟨rfl,u3⟩
 have H3:=H2.call u3
 refine bZ 1 10 (fun Ym=>?_) fun Ym=>?_
 refine ae 1 (h:=b8 (H3.b 0) (k:=ae 1 (h:=b8 (H3.b 1) (k:=ae 0 (h:=aM (c:=o5 aF JB JA JC _ _ _ bF ZC ZB ZD _ _ _ w3 (Pc.at H3) (O2.at H3) (Pg.at H3) (abd.at H3) (aa2.at H3) (abi.at H3)) (k:=?_))))))
 rintro _ w4 ⟨rfl,u4⟩
 have H4:=H3.call u4
 refine ik 2 17 (fun ahv=>?_) fun ahv=>?_
 refine ae 1 (h:=b8 (H4.b 0) (k:=ae 1 (h:=b8 (H4.b 1) (k:=ae 0 (h:=aM (c:=o5 aS Jy Jx Jz _ _ _ bS Zz Zy ZA _ _ _ w4 (Pb.at H4) (O1.at H4) (Pf.at H4) (abb.at H4) (aa1.at H4) (abh.at H4)) (k:=?_))))))
 rintro _ w5 ⟨rfl,u5⟩
 have H5:=H4.call u5
 refine ik 2 24 (fun ac0=>?_) fun ac0=>?_
 refine ae 1 (h:=b8 (H5.b 0) (k:=ae 1 (h:=b8 (H5.b 1) (k:=ae 0 (h:=aM (c:=o5 aB JE JD JF _ _ _ bB ZF ZE ZG _ _ _ w5 (Pd.at H5) (O3.at H5) (Ph.at H5) (abe.at H5) (aa3.at H5) (abj.at H5)) (k:=?_))))))
 rintro _ w6 ⟨rfl,u6⟩
 have H6:=H5.call u6
 exact cG 4 [4] (h:=bE 1 (h:=⟨(by simp_all [AY]),H6.ag⟩))
 exact cG 9 [4] (h:=bE 1 (h:=⟨(by simp_all [AY]),H5.ag⟩))
 exact cG 16 [4] (h:=bE 1 (h:=⟨(by simp_all [AY]),H4.ag⟩))
 exact cG 23 [4] (h:=bE 1 (h:=⟨(by simp_all [AY]),H3.ag⟩))
theorem HI (ZP:aO) (aT:List Nd) (ZO:Nat) (aF:ar) (JB:aO) (JA:aO) (JC:aO) (Sf:Nat) (Se:Nat) (Sg:Nat) (aS:ar) (Jy:aO) (Jx:aO) (Jz:aO) (Sc:Nat) (Sa:Nat) (Sd:Nat) (aB:ar) (JE:aO) (JD:aO) (JF:aO) (Si:Nat) (Sh:Nat) (Sj:Nat) (w:World) (raT:cd aJ w ZP aT ZO) (Pc:cd (aw .i64) w JB aF.cls Sf) (O2:cd (aw .i64) w JA aF.next Se) (Pg:cd bu w JC aF.acc Sg) (Pb:cd (aw .i64) w Jy aS.cls Sc) (O1:cd (aw .i64) w Jx aS.next Sa) (Pf:cd bu w Jz aS.acc Sd) (Pd:cd (aw .i64) w JE aB.cls Si) (O3:cd (aw .i64) w JD aB.next Sh) (Ph:cd bu w JF aB.acc Sj) (rT:cd fh w (some ⟨0,0,none⟩) rG 64) (hl:aT.length≤100000):
 Calls Tryz.prog 18 #[.agg #[aG ZP aT ZO,aG JB aF.cls Sf,ak aF.width,ak aF.start,aG JA aF.next Se,aG JC aF.acc Sg,aG Jy aS.cls Sc,ak aS.width,ak aS.start,aG Jx aS.next Sa,aG Jz aS.acc Sd,aG JE aB.cls Si,ak aB.width,ak aB.start,aG JD aB.next Sh,aG JF aB.acc Sj]] w (bj fun v w'=>∃r:Bool,v= .bool r∧aE w [] w' []∧(aew aT aF aS aB r)):=by
 have Xz:=raT.le
 have TU:=Pc.le
 have TR:=O2.le
 have TX:=Pg.le
 have TT:=Pb.le
 have TQ:=O1.le
 have TW:=Pf.le
 have TV:=Pd.le
 have TS:=O3.le
 have TY:=Ph.le
 have kH:=rT.le
 refine cL Tryz.func18 (h:=fun H0=>ae 2 (h:=gI H0 (k:=fun w1 H1=>ae 6 (h:=aH (H1.b 0) (k:=ae 0 (h:=aM (c:=Kk ZP aT ZO _ w1 (raT.at H1) (rT.at H1) oz oz) (k:=?_)))))))
 rintro _ w2 ⟨Kj,lM,BU,D7,vE,Bu,vy,Bq,vF,Bv,vb,AW,u0,AP,vc,AX,vL,BI,vK,BH,vM,BJ,rfl,u2,vt⟩
 have H2:=H1.ns u2
 refine ae 3 (h:=da H2 (k:=fun w3 H3=>aU 0 (h:=bC H3 11 (k:=fun w4 H4=>bZ 8 13 (fun Wm=>?_) fun Wm=>?_))))
 refine ae 1 (h:=b8 (H4.b 11) (k:=ae 1 (h:=b8 (H4.b 0) (k:=ae 0 (h:=aM (c:=tQ Kj.fw vE vy vF _ _ _ aF JB JA JC _ _ _ w4 (H4.rt 2) (H4.rt 3) (H4.rt 4) (Pc.at H4) (O2.at H4) (Pg.at H4)) (k:=?_))))))
 rintro _ w5 ⟨rfl,u5⟩
 have H5:=H4.call u5
 refine ik 2 20 (fun ahu=>?_) fun ahu=>?_
 refine ae 1 (h:=b8 (H5.b 11) (k:=ae 1 (h:=b8 (H5.b 0) (k:=ae 0 (h:=aM (c:=tQ Kj.se vb u0 vc _ _ _ aS Jy Jx Jz _ _ _ w5 (H5.rt 5) (H5.rt 6) (H5.rt 7) (Pb.at H5) (O1.at H5) (Pf.at H5)) (k:=?_))))))
 rintro _ w6 ⟨rfl,u6⟩
 have H6:=H5.call u6
 refine ik 2 27 (fun acZ=>?_) fun acZ=>?_
 refine ae 1 (h:=b8 (H6.b 11) (k:=ae 1 (h:=b8 (H6.b 0) (k:=ae 0 (h:=aM (c:=tQ Kj.bk vL vK vM _ _ _ aB JE JD JF _ _ _ w6 (H6.rt 8) (H6.rt 9) (H6.rt 10) (Pd.at H6) (O3.at H6) (Ph.at H6)) (k:=?_))))))
 rintro _ w7 ⟨rfl,u7⟩
 have H7:=H6.call u7
 exact cG 4 [2] (h:=bE 1 (h:=⟨ft Kj.bk aB,rfl,H7.ag,⟨_,_,vt,by simp_all⟩⟩))
 exact cG 9 [2] (h:=bE 1 (h:=⟨false,rfl,H6.ag,⟨_,_,vt,by simp_all⟩⟩))
 exact cG 16 [2] (h:=bE 1 (h:=⟨false,rfl,H5.ag,⟨_,_,vt,by simp_all⟩⟩))
 exact cG 23 [2] (h:=bE 1 (h:=⟨false,rfl,H4.ag,⟨_,_,vt,by simp_all⟩⟩))
end Go.Proofs.YtpbgmkhmdbchpaaGreatDoor
namespace Go.Sx
theorem AA {p:Prop} (h:p:=by first|rfl|(simp_all [AY,Hk])):p:=h
end Go.Sx
namespace Go.Proofs.YtpbgmkhmdbchpaaGreatDoor
open Go Go.Sx
theorem M6 (z:ByteArray) (w:World):
 Calls Tryz.prog 10 #[.string z] w (bj fun v w'=>∃b:Bool,v= .bool b∧aE w [] w' []∧(ajc z b)):=by
 refine cL Tryz.func10 (h:=fun H0=>ae 8 (h:=aM (c:=sq _ w) (k:=?_)))
 rintro _ w1 ⟨bN,cv,mV,oK,lM,rfl,u1,jo⟩
 have H1:=H0.ns u1
 refine bZ 14 14 (fun Wn=>?_) fun Wn=>?_
 obtain ⟨⟨T,yv,zy,rR⟩,hl5,_⟩:=lW.tree (show lW z mV oK 0 from (show lM=0 from Wn)▸jo)
 have hp5:=dK T
 have Yi:T.flat.length=mV.length:=by rw [rR]
 have Wj:Sub mV (mV.length-1) T:=by have h9:=Sub.self yv;rw [rR] at h9;exact h9
 refine ae 3 (h:=jK (k:=ae 0 (h:=aM (c:=A0 bN mV _ _ (mV.length-1) T w1 (H1.rt 0) oz oz Wj zy) (k:=?_))))
 rintro _ w2 ⟨rfl,u2⟩
 have H2:=H1.call u2
 exact bE 6 (h:=⟨decide ((br T)>(50:Int)),rfl,H2.ag,(by first|exact ⟨_,_,_,jo,.inl ⟨Wn,rfl⟩⟩|exact ⟨_,_,_,jo,.inr ⟨Wn,T,yv,zy,rR,rfl⟩⟩)⟩)
 exact bE 11 (h:=⟨false,rfl,H1.ag,(by first|exact ⟨_,_,_,jo,.inl ⟨Wn,rfl⟩⟩|exact ⟨_,_,_,jo,.inr ⟨Wn,T,yv,zy,rR,rfl⟩⟩)⟩)
theorem Gv (w:World) (rT:cd fh w (some ⟨0,0,none⟩) rG 64) (lw:Laid w):
 Calls Tryz.prog 9 #[] w (bj fun v w'=>v= .bool true∧aE w [] w' []):=by
 have kH:=rT.le
 refine cL Tryz.func9 (h:=fun H0=>ae 7 (h:=aM (c:=kK _ _ w (rT.at H0) (lw.at H0)) (k:=?_)))
 rintro _ w1 ⟨Kj,oK,lM,BU,D7,vE,Bu,vy,Bq,vF,Bv,vb,AW,u0,AP,vc,AX,vL,BI,vK,BH,vM,BJ,rfl,u1,KV⟩
 have H1:=H0.ns u1
 refine ae 4 (h:=da H1 (k:=fun w2 H2=>aU 0 (h:=bC H2 10 (k:=fun w3 H3=>ae 6 (h:=aM (c:=kK _ _ w3 (rT.at H3) (lw.at H3)) (k:=?_))))))
 rintro _ w4 ⟨Ki,BK,qK,WZ,afH,FW,adw,FT,adt,FX,adA,J3,aaV,J1,aaR,J4,aaY,R6,aea,R1,ad7,R7,aed,rfl,u4,FE⟩
 have H4:=H3.ns u4
 refine ae 4 (h:=da H4 (k:=fun w5 H5=>aU 0 (h:=bC H5 21 (k:=fun w6 H6=>?_))))
 obtain ⟨ha5,he5⟩:=Nq KV
 obtain ⟨hb5,rR,ht5⟩:=I7 FE abq Y6 Y5 ⟨by decide,by decide⟩
 have Wh:uU ⟨#[97]⟩ 9 Ki BK 0:=rR▸FE
 obtain ⟨SM,tK,Uh⟩:=Iq Wh ht5 dF
 have alC:Ki.tree.length≤100000:=by rw [ht5];simp [yk,Tr.flat]
 refine bZ 9 19 (fun g20=>?_) fun g20=>?_
 refine bZ 4 23 (fun ahO=>?_) fun ahO=>?_
 refine bZ 4 27 (fun ada=>?_) fun ada=>?_
 refine ae 1 (h:=b8 (H6.b 21) (k:=ae 0 (h:=db (aw .i64) [97] H6 (k:=fun w7 H7=>ae 0 (h:=aM (c:=pM Ki.fw FW FT FX _ _ _ _ [97] _ w7 (H7.rt 12) (H7.rt 13) (H7.rt 14) (H7.rt 22)) (k:=?_))))))
 rintro _ w8 ⟨rfl,u8⟩
 have H8:=H7.call u8
 refine ik 2 33 (fun Yt=>?_) fun Yt=>?_
 refine ae 1 (h:=b8 (H8.b 21) (k:=ae 0 (h:=db (aw .i64) [98,97] H8 (k:=fun w9 H9=>ae 0 (h:=aM (c:=pM Ki.fw FW FT FX _ _ _ _ [98,97] _ w9 (H9.rt 12) (H9.rt 13) (H9.rt 14) (H9.rt 23)) (k:=?_))))))
 rintro _ gK ⟨rfl,qZ⟩
 have bO:=H9.call qZ
 refine ik 3 40 (fun Uv=>?_) fun Uv=>?_
 refine ae 1 (h:=b8 (bO.b 21) (k:=ae 0 (h:=db (aw .i64) [98,97] bO (k:=fun iu bR=>ae 0 (h:=aM (c:=pM Ki.se J3 J1 J4 _ _ _ _ [98,97] _ iu (bR.rt 15) (bR.rt 16) (bR.rt 17) (bR.rt 24)) (k:=?_))))))
 rintro _ iW ⟨rfl,xh⟩
 have cm:=bR.call xh
 refine ik 2 46 (fun QS=>?_) fun QS=>?_
 refine ae 0 (h:=b8 (cm.b 21) (k:=ae 0 (h:=aM (c:=HI WZ Ki.tree _ Ki.fw FW FT FX _ _ _ Ki.se J3 J1 J4 _ _ _ Ki.bk R6 R1 R7 _ _ _ iW (cm.rt 11) (cm.rt 12) (cm.rt 13) (cm.rt 14) (cm.rt 15) (cm.rt 16) (cm.rt 17) (cm.rt 18) (cm.rt 19) (cm.rt 20) (rT.at cm) oz) (k:=?_))))
 rintro _ iV ⟨r_1,rfl,BS,sU⟩
 have cW:=cm.call BS
 exact cG 4 [0] (h:=bE 1 (h:=⟨(by first|(rw [jX Wh sU];done)|(simp_all;done)),cW.ag⟩))
 exact cG 6 [0] (h:=bE 1 (h:=⟨(by first|(rw [jX Wh sU];done)|(simp_all;done)),cm.ag⟩))
 exact cG 12 [0] (h:=bE 1 (h:=⟨(by first|(rw [jX Wh sU];done)|(simp_all;done)),bO.ag⟩))
 exact cG 19 [0] (h:=bE 1 (h:=⟨(by first|(rw [jX Wh sU];done)|(simp_all;done)),H8.ag⟩))
 exact cG 25 [0] (h:=bE 1 (h:=⟨(by first|(rw [jX Wh sU];done)|(simp_all;done)),H6.ag⟩))
 exact cG 29 [0] (h:=bE 1 (h:=⟨(by first|(rw [jX Wh sU];done)|(simp_all;done)),H6.ag⟩))
 exact cG 33 [0] (h:=bE 1 (h:=⟨(by first|(rw [jX Wh sU];done)|(simp_all;done)),H6.ag⟩))
theorem zT (z:ByteArray) (aK:Int) (w:World) (rT:cd fh w (some ⟨0,0,none⟩) rG 64) (lw:Laid w):
 Calls Tryz.prog 3 #[.string z,ak aK] w (bj fun v w'=>v= .bool true∧aE w [] w' []):=by
 have kH:=rT.le
 refine cL Tryz.func3 (h:=fun H0=>ae 8 (h:=aM (c:=Gv w (rT.at H0) (lw.at H0)) (k:=?_)))
 rintro _ w1 ⟨rfl,u1⟩
 have H1:=H0.call u1
 refine ae 10 (h:=aM (c:=M6 _ w1) (k:=?_))
 rintro _ w2 ⟨b_1,rfl,u2,amD⟩
 have H2:=H1.call u2
 refine ik 1 15 (fun g34=>?_) fun g34=>?_
 exact bE 16 (h:=⟨rfl,H2.ag⟩)
 refine bZ 3 18 (fun ahJ=>?_) fun ahJ=>?_
 refine aL 6 (fun Gn=>?_) fun Gn=>?_
 exact bE 6 (h:=⟨rfl,H2.ag⟩)
 refine ae 6 (h:=aM (c:=kK _ _ w2 (rT.at H2) (lw.at H2)) (k:=?_))
 rintro _ w3 ⟨Kj,oK,lM,BU,D7,vE,Bu,vy,Bq,vF,Bv,vb,AW,u0,AP,vc,AX,vL,BI,vK,BH,vM,BJ,rfl,u3,KV⟩
 have H3:=H2.ns u3
 refine ae 4 (h:=da H3 (k:=fun w4 H4=>aU 0 (h:=bC H4 10 (k:=fun w5 H5=>ae 8 (h:=aM (c:=ss _ _ w5) (k:=?_))))))
 rintro _ w6 ⟨Ki,BK,qK,WZ,afH,FW,adw,FT,adt,FX,adA,J3,aaV,J1,aaR,J4,aaY,R6,aea,R1,ad7,R7,aed,rfl,u6,FE⟩
 have H6:=H5.ns u6
 refine ae 4 (h:=da H6 (k:=fun w7 H7=>aU 0 (h:=bC H7 21 (k:=fun w8 H8=>cG 4 [10,9,8,7,6,5,4] (h:=?_)))))
 first|have NP:=hcmp7.uniq hcmp8|have NP:=hcmp5.uniq hcmp6|have NP:=Wg.uniq Wf|have NP:=KV.uniq FE
 obtain ⟨V3,ahh,aha⟩:=NP
 refine ae 2 (h:=b8 (H8.b 10) (k:=ae 0 (h:=b8 (H8.b 21) (k:=ae 0 (h:=aM (c:=xS BU Kj.tree _ Kj.fw vE vy vF _ _ _ Kj.se vb u0 vc _ _ _ Kj.bk vL vK vM _ _ _ WZ Ki.tree _ Ki.fw FW FT FX _ _ _ Ki.se J3 J1 J4 _ _ _ Ki.bk R6 R1 R7 _ _ _ w8 (H8.rt 0) (H8.rt 1) (H8.rt 2) (H8.rt 3) (H8.rt 4) (H8.rt 5) (H8.rt 6) (H8.rt 7) (H8.rt 8) (H8.rt 9) (H8.rt 11) (H8.rt 12) (H8.rt 13) (H8.rt 14) (H8.rt 15) (H8.rt 16) (H8.rt 17) (H8.rt 18) (H8.rt 19) (H8.rt 20)) (k:=?_))))))
 rintro _ w9 ⟨rfl,u9⟩
 have H9:=H8.call u9
 refine ik 1 40 (fun g39=>?_) fun g39=>?_
 refine bZ 5 45 (fun QQ=>?_) fun QQ=>?_
 exact bE 8 (h:=⟨AA,H9.ag⟩)
 exact bE 8 (h:=⟨AA,H9.ag⟩)
 exact bE 13 (h:=⟨AA,H9.ag⟩)
 refine ae 13 (h:=aM (c:=kK _ _ w2 (rT.at H2) (lw.at H2)) (k:=?_))
 rintro _ gK ⟨p_3,akN,UH,afJ,alb,ady,aks,adv,akq,adC,aku,aaX,ajr,aaT,ajp,aa0,ajt,aec,akJ,ad9,akE,aef,akL,rfl,qZ,Wg⟩
 have bO:=H2.ns qZ
 refine ae 4 (h:=da bO (k:=fun iu bR=>aU 0 (h:=bC bR 10 (k:=fun iW cm=>ae 8 (h:=aM (c:=ss _ _ iW) (k:=?_))))))
 rintro _ iV ⟨p_4,akM,adF,afI,ala,adx,akr,adu,akp,adB,akt,aaW,ajq,aaS,ajo,aaZ,ajs,aeb,akI,ad8,akD,aee,akK,rfl,BS,Wf⟩
 have cW:=cm.ns BS
 refine ae 4 (h:=da cW (k:=fun lT cH=>aU 0 (h:=bC cH 21 (k:=fun qx cI=>cG 4 [10,9,8,7,6,5,4] (h:=?_)))))
 first|have NP:=hcmp7.uniq hcmp8|have NP:=hcmp5.uniq hcmp6|have NP:=Wg.uniq Wf|have NP:=KV.uniq FE
 obtain ⟨V3,ahh,aha⟩:=NP
 refine ae 2 (h:=b8 (cI.b 10) (k:=ae 0 (h:=b8 (cI.b 21) (k:=ae 0 (h:=aM (c:=xS afJ p_3.tree _ p_3.fw ady adv adC _ _ _ p_3.se aaX aaT aa0 _ _ _ p_3.bk aec ad9 aef _ _ _ afI p_4.tree _ p_4.fw adx adu adB _ _ _ p_4.se aaW aaS aaZ _ _ _ p_4.bk aeb ad8 aee _ _ _ qx (cI.rt 0) (cI.rt 1) (cI.rt 2) (cI.rt 3) (cI.rt 4) (cI.rt 5) (cI.rt 6) (cI.rt 7) (cI.rt 8) (cI.rt 9) (cI.rt 11) (cI.rt 12) (cI.rt 13) (cI.rt 14) (cI.rt 15) (cI.rt 16) (cI.rt 17) (cI.rt 18) (cI.rt 19) (cI.rt 20)) (k:=?_))))))
 rintro _ qw ⟨rfl,u16⟩
 have cT:=cI.call u16
 refine ik 1 40 (fun g39=>?_) fun g39=>?_
 refine bZ 5 45 (fun QQ=>?_) fun QQ=>?_
 exact bE 8 (h:=⟨AA,cT.ag⟩)
 exact bE 8 (h:=⟨AA,cT.ag⟩)
 exact bE 13 (h:=⟨AA,cT.ag⟩)
open Go Go.Sx Go.ChangeShapes Go.WideShapes Go.ChangeAt Go.RowKit
def Fk:List (String×DataW Unit):=[("math/bits.deBruijn64tab",Rows.laid_math_bits_deBruijn64tab)]
theorem own:ownKnob Tryz.prog.godebug=none:=by kernel_rfl
theorem acX:Tryz.prog.globalNamed "math/bits.deBruijn64tab" =some 0:=by kernel_rfl
theorem afK:(Tryz.prog.globals[0]?).map (·.type)=some 281:=by kernel_rfl
theorem Q5 (os:Os) (args:Array Value):laidMetH Tryz.prog Fk ((World.doorLaid Tryz.prog 400 os).forCall (fun _ _=>0) ⟨#[],args,[]⟩).memory:=
  laidMetH_of_parts3 (fuel:=8) (laidMet_of_run' 8 iX iX) iX iX
theorem Q9:(Rows.laid_math_bits_deBruijn64tab:DataW Unit)= .agg (rG.map fun n=> .lit (.int .u8 ((n:Nat):Int))):=rfl
theorem HD {W:World} (h:laidMetH Tryz.prog Fk W):bH fh W (.slice (some ⟨0,0,none⟩) rG.length 64) rG:=by
  rw [MakeChecks.laidMetH_plain _ _ _ iX] at h
  obtain ⟨ps,⟨g0,t0,cs0,f0,p0,q0,hg0,ht0,hv0,hd0,_,_⟩,_,_⟩:=h
  obtain rfl:=Option.some.inj (acX.symm.trans hg0)
  obtain rfl:=Option.some.inj (afK.symm.trans ht0)
  obtain ⟨xs,m1,rfl,hx1,hlen,hn,hel⟩:=DataW.trod_array Tryz.underlying281 hd0
  have c5:Tryz.prog.cellsOf 5=1:=by kernel_rfl
  have NO:=congrArg Prod.fst hx1
  rw [Q9] at NO
  simp only [DataW.agg.injEq] at NO
  have jS:fh.all rG=rG.map fun n=>Value.int .u8 ((n:Nat):Int):=rfl
  refine ⟨some ⟨0,0,none⟩,64,rfl,rfl,by decide,fun j u hj=>⟨⟨0,0,none⟩,rfl,?_⟩⟩
  rw [jS,List.getElem?_map] at hj
  obtain ⟨n,X0,rfl⟩:=Option.map_eq_some_iff.1 hj
  have ag5:j<64:=by have:=(List.getElem?_eq_some_iff.1 X0).1;rwa [wT] at this
  have h1:=hel j ag5
  rw [c5,Nat.mul_one] at h1
  have T5:j<xs.length:=by omega
  rw [List.getElem?_eq_getElem T5] at h1
  obtain ⟨k,e1,e2,_⟩:=DataW.trod_int Tryz.underlying5 h1
  have e3:(xs.map (·.1))[j]?=some (.lit (.int .u8 k)):=by rw [List.getElem?_map,List.getElem?_eq_getElem T5,e2];rfl
  rw [←NO,List.getElem?_map,X0] at e3
  have e4:((n:Nat):Int)=k:=by simpa using e3
  rw [mw,Nat.zero_add,World.var?_cell acX hv0 j,e4]
  have e5:(cs0.toList.drop j).take 1=[Value.int .u8 k]:=e1
  have e6:((cs0.toList.drop j).take 1)[0]?=some (Value.int .u8 k):=by rw [e5];rfl
  rw [List.getElem?_take] at e6
  simpa using e6
theorem T1 {W:World} (hs:W.ShapedOpen Tryz.prog):Laid W:=
  ⟨cell_of_shapedOpen_int hs (t:=3) (zero:= #[.int .i64 0]) (of_decide_eq_true iX) iX rfl iX iX Tryz.underlying3⟩
theorem FJ {H:Type} {enc:TypeId×Value→H} {a:Assume} {C:Checked} {os:Os} {f:FuncId} {fn:Func} {s:ChangeSpec} {conds:List PathCond} {apart fresh handsOn again:Bool} {X:World→Array Value→Prop}
    (hX:∀(w w':World) (args:Array Value),w.heap=w'.heap→X w args→X w' args)
    (own:ownKnob C.prog.godebug=none) (started:os.Started) (Xm:C.prog.inits.idxOf? f=none) (hfn:C.prog.funcs[f]?=some fn)
    (witness:∃(w:World) (tape:Tape) (i:Input),w.os=os∧(w.forCall tape i).Shaped C.prog∧i.vars=[]∧Input.okWide C.prog (w.forCall tape i) .any w.heap.size f i∧
      ((s.pre enc C.prog fn conds apart (w.forCall tape i).memory i.args∧X (w.forCall tape i).memory i.args)∧sizedMet enc C.prog fn (OpenSpec.ofChange s) apart (w.forCall tape i).memory i.args)∧a.holds C.prog (lone (Frame.enter C.prog f i.args .normal) [] (w.forCall tape i)))
    (RE:∀(W:World) (base:Nat) (args:Array Value) (ds gs:List (DataW H)) (before:List MemPlace),
      (∀(j:Nat) t v,fn.params[j]?=some t→args[j]?=some v→Value.okWide C.prog W .any base t v)→
      DataW.Whole enc C.prog fn.params.toList s.vars apart W args.toList ds gs before→
      (DataW.weightsEach C.prog (fn.params.toList++s.plain.varTypes C.prog) (ds++gs)).all (· ≤reachBytes)=true→X W args→W.ShapedOpen C.prog→
      Calls C.prog f args W fun e W'=>∃v,e= .returned v∧s.post enc C.prog fn apart fresh handsOn again W args v W'):
    ReturnsInHanded a C os f .any (fun w args=>(s.pre enc C.prog fn conds apart w args∧X w args)∧sizedMet enc C.prog fn (OpenSpec.ofChange s) apart w args) (s.post enc C.prog fn apart fresh handsOn again):=by
  refine returnsInHanded_of_calls own started Xm witness ?_
  intro w tape i _ hsh _ bX ry _
  obtain ⟨_,_,_,fn',ag9,_,_,_,_,Iz⟩:=bX
  obtain rfl:fn'=fn:=Option.some.inj (ag9.symm.trans hfn)
  obtain ⟨⟨⟨ds,gs,before,hw,hc⟩,hx⟩,hz⟩:=ry
  have hw':=DataW.Whole.of_heap (w':=w.forCall tape i) (by rfl) hw
  refine (RE (w.forCall tape i) w.heap.size i.args ds gs before Iz hw' (hz.weights hw) (hX _ _ _ (by rfl) hx) hsh).mono fun e W' ⟨v,he,hp⟩=>?_
  subst he
  exact ChangeSpec.post_blind hp
end Go.Proofs.YtpbgmkhmdbchpaaGreatDoor
