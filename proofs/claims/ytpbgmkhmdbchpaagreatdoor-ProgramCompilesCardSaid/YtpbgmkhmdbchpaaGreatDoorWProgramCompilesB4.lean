/- The walks of functions, printed by wip/tools/gw.py. -/
import Derived.Test.YtpbgmkhmdbchpaaGreatDoorWProgramCompilesB3
import Derived.Shelf.Small.Bits
import Derived.Shelf.Small.Wraps
import Derived.Shelf.Strconv.Itoa0
import Derived.Shelf.Strings.Search1
import Derived.Shelf.Strings.Search2
import Derived.Shelf.Strings.Cut
import Derived.Shelf.LaysM
import Derived.Shelf.Strings.Shaped
import Derived.Shelf.Sort.Plain
import Derived.Shelf.Strings.Prefix
import Derived.Shelf.Slices.Reverse
import Derived.Shelf.Slices.Equal
import Derived.Ground.Names2Prog
import Derived.Shelf.Slices.Clone
import Derived.Shelf.Slices.CompactI
import Derived.Shelf.Slices.SearchI
import Derived.Shelf.Slices.Cells
import Derived.Shelf.Slices.In.SortNone
import Derived.Shelf.Slices.Empties2
import Derived.Ground.SlgnProg
import Derived.Shelf.SlicesE.Clone
import Derived.Test.YtpbgmkhmdbchpaaGreatDoorProg
set_option linter.unusedVariables false
set_option linter.unusedSimpArgs false
set_option linter.unusedSectionVars false
set_option maxRecDepth 20000
namespace Go.Proofs.YtpbgmkhmdbchpaaGreatDoor
open Go Go.Sx
theorem yM (c:Nat) (w:World) (hc:c=100∨c=115∨c=119):
 Calls Tryz.prog 145 #[.int .u8 ((c:Nat):Int)] w (bj fun v w'=>v= .tuple #[.agg #[av (ku c).w0,av (ku c).w1,av (ku c).w2,av (ku c).w3],.bool true]∧aE w [] w' []):=by
 refine cL Tryz.func145 (h:=fun H0=>ae 2 (h:=da H0 (k:=fun w1 H1=>aL 16 (fun Ze=>?_) fun Ze=>?_)))
 exfalso;omega
 refine aL 6 (fun N2=>?_) fun N2=>?_
 exfalso;omega
 refine aL 6 (fun Ji=>?_) fun Ji=>?_
 exfalso;omega
 refine aL 6 (fun Zb=>?_) fun Zb=>?_
 refine ae 2 (h:=aM (c:=nS _ w1) (k:=?_))
 rintro _ w2 ⟨rfl,u2⟩
 have H2:=H1.call u2
 refine aU 0 (h:=bC H2 0 (k:=fun w3 H3=>fx 4 (h1:=cK (H3.b 0)) (h2:=cZ) (h:=?_)))
 have e:ku c=cA ⟨#[100,105,103,105,116]⟩:=if_pos oz
 exact ⟨(by rw [e]),H3.ag⟩
 refine aL 6 (fun U7=>?_) fun U7=>?_
 refine ae 2 (h:=aM (c:=nS _ w1) (k:=?_))
 rintro _ w4 ⟨rfl,u4⟩
 have H4:=H1.call u4
 refine aU 0 (h:=bC H4 0 (k:=fun w5 H5=>fx 4 (h1:=cK (H5.b 0)) (h2:=cZ) (h:=?_)))
 have e:ku c=cA ⟨#[115,112,97,99,101]⟩:=by unfold ku;rw [if_neg oz,if_pos oz]
 exact ⟨(by rw [e]),H5.ag⟩
 refine aL 6 (fun c75=>?_) fun c75=>?_
 refine ae 2 (h:=aM (c:=nS _ w1) (k:=?_))
 rintro _ w6 ⟨rfl,u6⟩
 have H6:=H1.call u6
 refine ae 0 (h:=db fh [95] H6 (k:=fun w7 H7=>ae 0 (h:=aM (c:=nR _ [95] _ ([95].length) w7 (H7.rt 1) (by intro c hc;simp at hc;omega)) (k:=?_))))
 rintro _ w8 ⟨rfl,u8⟩
 have H8:=H7.call u8
 refine ae 0 (h:=aM (c:=Cb (cA ⟨#[97,108,110,117,109]⟩) (gU [95]) w8) (k:=?_))
 rintro _ w9 ⟨rfl,u9⟩
 have H9:=H8.call u9
 refine aU 0 (h:=bC H9 0 (k:=fun gK bO=>fx 4 (h1:=cK (bO.b 0)) (h2:=cZ) (h:=?_)))
 have e:ku c=sw (cA ⟨#[97,108,110,117,109]⟩) (gU [95]):=by unfold ku;rw [if_neg oz,if_neg oz]
 exact ⟨(by rw [e]),bO.ag⟩
 exfalso;omega
theorem UG (c:Nat) (w:World) (hc:c<256):
 Calls Tryz.prog 145 #[.int .u8 ((c:Nat):Int)] w (bj fun v w'=>v= .tuple #[.agg #[av ((dm c).1).w0,av ((dm c).1).w1,av ((dm c).1).w2,av ((dm c).1).w3],.bool ((dm c).2)]∧aE w [] w' []):=by
 refine cL Tryz.func145 (h:=fun H0=>ae 2 (h:=da H0 (k:=fun w1 H1=>aL 16 (fun Ze=>?_) fun Ze=>?_)))
 refine ae 2 (h:=db fh [10] H1 (k:=fun w2 H2=>ae 0 (h:=aM (c:=nR _ [10] _ ([10].length) w2 (H2.rt 1) (by intro c hc;simp at hc;omega)) (k:=?_))))
 rintro _ w3 ⟨rfl,u3⟩
 have H3:=H2.call u3
 refine aU 0 (h:=bC H3 0 (k:=fun w4 H4=>fx 4 (h1:=cK (H4.b 0)) (h2:=cZ) (h:=?_)))
 have e:dm c=(gU [10],true):=by unfold dm;rw [if_pos oz]
 exact ⟨(by rw [e]),H4.ag⟩
 refine aL 6 (fun N2=>?_) fun N2=>?_
 refine ae 2 (h:=db fh [9] H1 (k:=fun w5 H5=>ae 0 (h:=aM (c:=nR _ [9] _ ([9].length) w5 (H5.rt 1) (by intro c hc;simp at hc;omega)) (k:=?_))))
 rintro _ w6 ⟨rfl,u6⟩
 have H6:=H5.call u6
 refine aU 0 (h:=bC H6 0 (k:=fun w7 H7=>fx 4 (h1:=cK (H7.b 0)) (h2:=cZ) (h:=?_)))
 have e:dm c=(gU [9],true):=by unfold dm;rw [if_neg oz,if_pos oz]
 exact ⟨(by rw [e]),H7.ag⟩
 refine aL 6 (fun Ji=>?_) fun Ji=>?_
 refine ae 2 (h:=db fh [13] H1 (k:=fun w8 H8=>ae 0 (h:=aM (c:=nR _ [13] _ ([13].length) w8 (H8.rt 1) (by intro c hc;simp at hc;omega)) (k:=?_))))
 rintro _ w9 ⟨rfl,u9⟩
 have H9:=H8.call u9
 refine aU 0 (h:=bC H9 0 (k:=fun gK bO=>fx 4 (h1:=cK (bO.b 0)) (h2:=cZ) (h:=?_)))
 have e:dm c=(gU [13],true):=by unfold dm;rw [if_neg oz,if_neg oz,if_pos oz]
 exact ⟨(by rw [e]),bO.ag⟩
 refine aL 6 (fun Zb=>?_) fun Zb=>?_
 refine ae 2 (h:=aM (c:=nS _ w1) (k:=?_))
 rintro _ iu ⟨rfl,zJ⟩
 have bR:=H1.call zJ
 refine aU 0 (h:=bC bR 0 (k:=fun iW cm=>fx 4 (h1:=cK (cm.b 0)) (h2:=cZ) (h:=?_)))
 have e:dm c=(ku c,true):=by unfold dm;rw [if_neg oz,if_neg oz,if_neg oz,if_pos oz]
 have e1:ku c=cA ⟨#[100,105,103,105,116]⟩:=if_pos oz
 exact ⟨(by rw [e,e1]),cm.ag⟩
 refine aL 6 (fun U7=>?_) fun U7=>?_
 refine ae 2 (h:=aM (c:=nS _ w1) (k:=?_))
 rintro _ iV ⟨rfl,BS⟩
 have cW:=H1.call BS
 refine aU 0 (h:=bC cW 0 (k:=fun lT cH=>fx 4 (h1:=cK (cH.b 0)) (h2:=cZ) (h:=?_)))
 have e:dm c=(ku c,true):=by unfold dm;rw [if_neg oz,if_neg oz,if_neg oz,if_pos oz]
 have e1:ku c=cA ⟨#[115,112,97,99,101]⟩:=by unfold ku;rw [if_neg oz,if_pos oz]
 exact ⟨(by rw [e,e1]),cH.ag⟩
 refine aL 6 (fun c75=>?_) fun c75=>?_
 refine ae 2 (h:=aM (c:=nS _ w1) (k:=?_))
 rintro _ qx ⟨rfl,Oj⟩
 have cI:=H1.call Oj
 refine ae 0 (h:=db fh [95] cI (k:=fun qw cT=>ae 0 (h:=aM (c:=nR _ [95] _ ([95].length) qw (cT.rt 1) (by intro c hc;simp at hc;omega)) (k:=?_))))
 rintro _ uW ⟨rfl,LG⟩
 have dj:=cT.call LG
 refine ae 0 (h:=aM (c:=Cb (cA ⟨#[97,108,110,117,109]⟩) (gU [95]) uW) (k:=?_))
 rintro _ zI ⟨rfl,WV⟩
 have dY:=dj.call WV
 refine aU 0 (h:=bC dY 0 (k:=fun zo eJ=>fx 4 (h1:=cK (eJ.b 0)) (h2:=cZ) (h:=?_)))
 have e:dm c=(ku c,true):=by unfold dm;rw [if_neg oz,if_neg oz,if_neg oz,if_pos oz]
 have e1:ku c=sw (cA ⟨#[97,108,110,117,109]⟩) (gU [95]):=by unfold ku;rw [if_neg oz,if_neg oz]
 exact ⟨(by rw [e,e1]),eJ.ag⟩
 refine aL 7 (fun c77=>?_) fun c77=>?_
 refine aL 2 (fun RI=>?_) fun RI=>?_
 refine aR 3 rfl (n9 (m:=c) oz rfl rfl (ae 0 (h:=aM (c:=yM (c|||32) w1 (CS oz)) (k:=?_))))
 rintro _ DV ⟨rfl,u20⟩
 have dB:=H1.call u20
 refine ae 3 (h:=da dB (k:=fun Od gu=>aU 0 (h:=bC gu 1 (k:=fun LD gQ=>ae 5 (h:=b8 (gQ.b 1) (k:=ae 0 (h:=aM (c:=p9 (ku (c|||32)) LD) (k:=?_))))))))
 rintro _ LC ⟨rfl,WU⟩
 have jy:=gQ.call WU
 refine aU 0 (h:=bC jy 0 (k:=fun Oc lv=>fx 4 (h1:=cK (lv.b 0)) (h2:=cZ) (h:=?_)))
 have e:dm c=(gF (ku (c|||32)),true):=by unfold dm;rw [if_neg oz,if_neg oz,if_neg oz,if_neg oz,if_pos oz]
 exact ⟨(by rw [e]),lv.ag⟩
 exact absurd c77 RI
 refine aL 6 (fun RI=>?_) fun RI=>?_
 refine aL 2 (fun Lg=>?_) fun Lg=>?_
 refine aR 3 rfl (n9 (m:=c) oz rfl rfl (ae 0 (h:=aM (c:=yM (c|||32) w1 (CS oz)) (k:=?_))))
 rintro _ SA ⟨rfl,u25⟩
 have j5:=H1.call u25
 refine ae 3 (h:=da j5 (k:=fun VD kY=>aU 0 (h:=bC kY 1 (k:=fun Ob ja=>ae 5 (h:=b8 (ja.b 1) (k:=ae 0 (h:=aM (c:=p9 (ku (c|||32)) Ob) (k:=?_))))))))
 rintro _ Oa ⟨rfl,u28⟩
 have lX:=ja.call u28
 refine aU 0 (h:=bC lX 0 (k:=fun WT oV=>fx 4 (h1:=cK (oV.b 0)) (h2:=cZ) (h:=?_)))
 have e:dm c=(gF (ku (c|||32)),true):=by unfold dm;rw [if_neg oz,if_neg oz,if_neg oz,if_neg oz,if_pos oz]
 exact ⟨(by rw [e]),oV.ag⟩
 exact absurd RI Lg
 refine aL 5 (fun Lg=>?_) fun Lg=>?_
 refine aR 3 rfl (n9 (m:=c) oz rfl rfl (ae 0 (h:=aM (c:=yM (c|||32) w1 (CS oz)) (k:=?_))))
 rintro _ WS ⟨rfl,u30⟩
 have mJ:=H1.call u30
 refine ae 3 (h:=da mJ (k:=fun Z1 mI=>aU 0 (h:=bC mI 1 (k:=fun Z0 mH=>ae 5 (h:=b8 (mH.b 1) (k:=ae 0 (h:=aM (c:=p9 (ku (c|||32)) Z0) (k:=?_))))))))
 rintro _ w33 ⟨rfl,u33⟩
 have oM:=mH.call u33
 refine aU 0 (h:=bC oM 0 (k:=fun w34 qO=>fx 4 (h1:=cK (qO.b 0)) (h2:=cZ) (h:=?_)))
 have e:dm c=(gF (ku (c|||32)),true):=by unfold dm;rw [if_neg oz,if_neg oz,if_neg oz,if_neg oz,if_pos oz]
 exact ⟨(by rw [e]),qO.ag⟩
 refine ae 6 (h:=aM (c:=nS _ w1) (k:=?_))
 rintro _ w35 ⟨rfl,u35⟩
 have tN:=H1.call u35
 refine ae 1 (h:=aM (c:=KZ (cA ⟨#[97,108,110,117,109]⟩) c w35 oz) (k:=?_))
 rintro _ w36 ⟨rfl,u36⟩
 have zG:=tN.call u36
 refine cS 2 (fun Gi=>?_) fun Gi=>?_
 refine ae 2 (h:=ck (us:=[av Bs.zero.w0,av Bs.zero.w1,av Bs.zero.w2,av Bs.zero.w3]) (k:=aU 0 (h:=bC zG 0 (k:=fun ZZ xe=>fx 4 (h1:=cK (xe.b 0)) (h2:=cZ) (h:=?_)))))
 have e:dm c=(Bs.zero,false):=by unfold dm;rw [if_neg oz,if_neg oz,if_neg oz,if_neg oz,if_neg oz,if_pos Gi]
 exact ⟨(by rw [e]),xe.ag⟩
 refine ae 5 (h:=db fh [c] zG (k:=fun w38 uT=>ae 0 (h:=aM (c:=nR _ [c] _ ([c].length) w38 (uT.rt 1) (by intro c hc;simp at hc;omega)) (k:=?_))))
 rintro _ w39 ⟨rfl,u39⟩
 have wh:=uT.call u39
 refine aU 0 (h:=bC wh 0 (k:=fun w40 tM=>fx 4 (h1:=cK (tM.b 0)) (h2:=cZ) (h:=?_)))
 have e:dm c=(gU [c],true):=by unfold dm;rw [if_neg oz,if_neg oz,if_neg oz,if_neg oz,if_neg oz,if_neg Gi]
 exact ⟨(by rw [e]),tM.ag⟩
theorem UI (w:World):
 Calls Tryz.prog 98 #[] w (bj fun v w'=>v= .agg #[av (gF (gU [10])).w0,av (gF (gU [10])).w1,av (gF (gU [10])).w2,av (gF (gU [10])).w3]∧aE w [] w' []):=by
 refine cL Tryz.func98 (h:=fun H0=>ae 2 (h:=da H0 (k:=fun w1 H1=>ae 4 (h:=db fh [10] H1 (k:=fun w2 H2=>ae 0 (h:=aM (c:=nR _ [10] _ ([10].length) w2 (H2.rt 1) (by intro c hc;simp at hc;omega)) (k:=?_)))))))
 rintro _ w3 ⟨rfl,u3⟩
 have H3:=H2.call u3
 refine ae 0 (h:=aM (c:=p9 (gU [10]) w3) (k:=?_))
 rintro _ w4 ⟨rfl,u4⟩
 have H4:=H3.call u4
 exact aU 0 (h:=bC H4 0 (k:=fun w5 H5=>nG 3 (h1:=cK (H5.b 0)) (h:=⟨rfl,H5.ag⟩)))
theorem BR (b:Nat) (w:World):
 Calls Tryz.prog 190 #[bJ b] w (bj fun v w'=>v= .bool (ki b)∧aE w [] w' []):=by
 refine cL Tryz.func190 (h:=fun H0=>bZ 10 5 (fun g9=>?_) fun g9=>?_)
 exact bE 7 (h:=⟨(by congr 1;rw [Bool.eq_iff_iff];simp [ki];omega),H0.ag⟩)
 exact bE 7 (h:=⟨(by congr 1;rw [Bool.eq_iff_iff];simp [ki];omega),H0.ag⟩)
theorem Cw (b:Nat) (w:World):
 Calls Tryz.prog 191 #[bJ b] w (bj fun v w'=>v= .bool (kq b)∧aE w [] w' []):=by
 refine cL Tryz.func191 (h:=fun H0=>bZ 10 5 (fun g10=>?_) fun g10=>?_)
 exact bE 7 (h:=⟨(by congr 1;rw [Bool.eq_iff_iff];simp [kq];omega),H0.ag⟩)
 exact bE 7 (h:=⟨(by congr 1;rw [Bool.eq_iff_iff];simp [kq];omega),H0.ag⟩)
theorem uD (b:Nat) (w:World):
 Calls Tryz.prog 170 #[bJ b] w (bj fun v w'=>v= .bool (iZ b)∧aE w [] w' []):=by
 refine cL Tryz.func170 (h:=fun H0=>bZ 10 5 (fun g11=>?_) fun g11=>?_)
 exact bE 7 (h:=⟨(by congr 1;rw [Bool.eq_iff_iff];simp [iZ];omega),H0.ag⟩)
 exact bE 7 (h:=⟨(by congr 1;rw [Bool.eq_iff_iff];simp [iZ];omega),H0.ag⟩)
theorem CC (name:ByteArray) (b:Nat) (w:World):
 Calls Tryz.prog 169 #[.string name,bJ b] w (bj fun v w'=>v= .tuple #[.bool (ed name b),.bool (isOk name)]∧aE w [] w' []):=by
 refine cL Tryz.func169 (h:=fun H0=>aL 19 (fun mL=>?_) fun mL=>?_)
 refine ae 3 (h:=aM (c:=BR b w) (k:=?_))
 rintro _ w1 ⟨rfl,u1⟩
 have H1:=H0.call u1
 refine ik 1 11 (fun g17=>?_) fun g17=>?_
 refine gr 8 (h:=?_)
 have e1:ed name b=(ki b||kq b):=by unfold ed;rw [if_pos mL]
 have e2:isOk name=true:=by unfold isOk;simp [mL]
 exact ⟨(by rw [e1,e2];all_goals exact iD (by (first|rfl|(rw [Bool.eq_iff_iff];(try simp only [ki,kq,iZ,Bool.or_eq_true,Bool.and_eq_true,Bool.not_eq_true',decide_eq_true_eq,decide_eq_false_iff_not,Bool.false_eq_true,iff_false,iff_true,true_iff,false_iff] at*);omega)))),H1.ag⟩
 refine ae 1 (h:=aM (c:=Cw b w1) (k:=?_))
 rintro _ w2 ⟨rfl,u2⟩
 have H2:=H1.call u2
 refine gr 6 (h:=?_)
 have e1:ed name b=(ki b||kq b):=by unfold ed;rw [if_pos mL]
 have e2:isOk name=true:=by unfold isOk;simp [mL]
 exact ⟨(by rw [e1,e2];all_goals exact iD (by (first|rfl|(rw [Bool.eq_iff_iff];(try simp only [ki,kq,iZ,Bool.or_eq_true,Bool.and_eq_true,Bool.not_eq_true',decide_eq_true_eq,decide_eq_false_iff_not,Bool.false_eq_true,iff_false,iff_true,true_iff,false_iff] at*);omega)))),H2.ag⟩
 refine aL 6 (fun lu=>?_) fun lu=>?_
 refine ae 3 (h:=aM (c:=uD b w) (k:=?_))
 rintro _ w3 ⟨rfl,u3⟩
 have H3:=H0.call u3
 refine gr 5 (h:=?_)
 have e1:ed name b=(iZ b):=by unfold ed;rw [if_neg mL,if_pos lu]
 have e2:isOk name=true:=by unfold isOk;simp [lu]
 exact ⟨(by rw [e1,e2];all_goals exact iD (by (first|rfl|(rw [Bool.eq_iff_iff];(try simp only [ki,kq,iZ,Bool.or_eq_true,Bool.and_eq_true,Bool.not_eq_true',decide_eq_true_eq,decide_eq_false_iff_not,Bool.false_eq_true,iff_false,iff_true,true_iff,false_iff] at*);omega)))),H3.ag⟩
 refine aL 6 (fun lU=>?_) fun lU=>?_
 refine ae 3 (h:=aM (c:=BR b w) (k:=?_))
 rintro _ w4 ⟨rfl,u4⟩
 have H4:=H0.call u4
 refine ik 1 23 (fun g21=>?_) fun g21=>?_
 refine gr 12 (h:=?_)
 have e1:ed name b=(ki b||kq b||iZ b):=by unfold ed;rw [if_neg mL,if_neg lu,if_pos lU]
 have e2:isOk name=true:=by unfold isOk;simp [lU]
 exact ⟨(by rw [e1,e2];all_goals exact iD (by (first|rfl|(rw [Bool.eq_iff_iff];(try simp only [ki,kq,iZ,Bool.or_eq_true,Bool.and_eq_true,Bool.not_eq_true',decide_eq_true_eq,decide_eq_false_iff_not,Bool.false_eq_true,iff_false,iff_true,true_iff,false_iff] at*);omega)))),H4.ag⟩
 refine ae 1 (h:=aM (c:=Cw b w4) (k:=?_))
 rintro _ w5 ⟨rfl,u5⟩
 have H5:=H4.call u5
 refine ik 2 27 (fun ahN=>?_) fun ahN=>?_
 refine gr 8 (h:=?_)
 have e1:ed name b=(ki b||kq b||iZ b):=by unfold ed;rw [if_neg mL,if_neg lu,if_pos lU]
 have e2:isOk name=true:=by unfold isOk;simp [lU]
 exact ⟨(by rw [e1,e2];all_goals exact iD (by (first|rfl|(rw [Bool.eq_iff_iff];(try simp only [ki,kq,iZ,Bool.or_eq_true,Bool.and_eq_true,Bool.not_eq_true',decide_eq_true_eq,decide_eq_false_iff_not,Bool.false_eq_true,iff_false,iff_true,true_iff,false_iff] at*);omega)))),H5.ag⟩
 refine ae 1 (h:=aM (c:=uD b w5) (k:=?_))
 rintro _ w6 ⟨rfl,u6⟩
 have H6:=H5.call u6
 refine gr 6 (h:=?_)
 have e1:ed name b=(ki b||kq b||iZ b):=by unfold ed;rw [if_neg mL,if_neg lu,if_pos lU]
 have e2:isOk name=true:=by unfold isOk;simp [lU]
 exact ⟨(by rw [e1,e2];all_goals exact iD (by (first|rfl|(rw [Bool.eq_iff_iff];(try simp only [ki,kq,iZ,Bool.or_eq_true,Bool.and_eq_true,Bool.not_eq_true',decide_eq_true_eq,decide_eq_false_iff_not,Bool.false_eq_true,iff_false,iff_true,true_iff,false_iff] at*);omega)))),H6.ag⟩
 refine aL 6 (fun mr=>?_) fun mr=>?_
 refine ae 3 (h:=aM (c:=BR b w) (k:=?_))
 rintro _ w7 ⟨rfl,u7⟩
 have H7:=H0.call u7
 refine gr 5 (h:=?_)
 have e1:ed name b=(ki b):=by unfold ed;rw [if_neg mL,if_neg lu,if_neg lU,if_pos mr]
 have e2:isOk name=true:=by unfold isOk;simp [mr]
 exact ⟨(by rw [e1,e2];all_goals exact iD (by (first|rfl|(rw [Bool.eq_iff_iff];(try simp only [ki,kq,iZ,Bool.or_eq_true,Bool.and_eq_true,Bool.not_eq_true',decide_eq_true_eq,decide_eq_false_iff_not,Bool.false_eq_true,iff_false,iff_true,true_iff,false_iff] at*);omega)))),H7.ag⟩
 refine aL 6 (fun mi=>?_) fun mi=>?_
 refine ae 3 (h:=aM (c:=Cw b w) (k:=?_))
 rintro _ w8 ⟨rfl,u8⟩
 have H8:=H0.call u8
 refine gr 5 (h:=?_)
 have e1:ed name b=(kq b):=by unfold ed;rw [if_neg mL,if_neg lu,if_neg lU,if_neg mr,if_pos mi]
 have e2:isOk name=true:=by unfold isOk;simp [mi]
 exact ⟨(by rw [e1,e2];all_goals exact iD (by (first|rfl|(rw [Bool.eq_iff_iff];(try simp only [ki,kq,iZ,Bool.or_eq_true,Bool.and_eq_true,Bool.not_eq_true',decide_eq_true_eq,decide_eq_false_iff_not,Bool.false_eq_true,iff_false,iff_true,true_iff,false_iff] at*);omega)))),H8.ag⟩
 refine aL 6 (fun fg=>?_) fun fg=>?_
 refine bZ 5 43 (fun Uu=>?_) fun Uu=>?_
 refine bZ 4 47 (fun ahK=>?_) fun ahK=>?_
 refine gr 8 (h:=?_)
 have e1:ed name b=(decide (9≤b∧b≤13∨b=32)):=by unfold ed;rw [if_neg mL,if_neg lu,if_neg lU,if_neg mr,if_neg mi,if_pos fg]
 have e2:isOk name=true:=by unfold isOk;simp [fg]
 exact ⟨(by rw [e1,e2];all_goals exact iD (by (first|rfl|(rw [Bool.eq_iff_iff];(try simp only [ki,kq,iZ,Bool.or_eq_true,Bool.and_eq_true,Bool.not_eq_true',decide_eq_true_eq,decide_eq_false_iff_not,Bool.false_eq_true,iff_false,iff_true,true_iff,false_iff] at*);omega)))),H0.ag⟩
 refine gr 8 (h:=?_)
 have e1:ed name b=(decide (9≤b∧b≤13∨b=32)):=by unfold ed;rw [if_neg mL,if_neg lu,if_neg lU,if_neg mr,if_neg mi,if_pos fg]
 have e2:isOk name=true:=by unfold isOk;simp [fg]
 exact ⟨(by rw [e1,e2];all_goals exact iD (by (first|rfl|(rw [Bool.eq_iff_iff];(try simp only [ki,kq,iZ,Bool.or_eq_true,Bool.and_eq_true,Bool.not_eq_true',decide_eq_true_eq,decide_eq_false_iff_not,Bool.false_eq_true,iff_false,iff_true,true_iff,false_iff] at*);omega)))),H0.ag⟩
 refine gr 12 (h:=?_)
 have e1:ed name b=(decide (9≤b∧b≤13∨b=32)):=by unfold ed;rw [if_neg mL,if_neg lu,if_neg lU,if_neg mr,if_neg mi,if_pos fg]
 have e2:isOk name=true:=by unfold isOk;simp [fg]
 exact ⟨(by rw [e1,e2];all_goals exact iD (by (first|rfl|(rw [Bool.eq_iff_iff];(try simp only [ki,kq,iZ,Bool.or_eq_true,Bool.and_eq_true,Bool.not_eq_true',decide_eq_true_eq,decide_eq_false_iff_not,Bool.false_eq_true,iff_false,iff_true,true_iff,false_iff] at*);omega)))),H0.ag⟩
 refine aL 6 (fun rU=>?_) fun rU=>?_
 refine bZ 5 55 (fun Yr=>?_) fun Yr=>?_
 refine gr 8 (h:=?_)
 have e1:ed name b=(decide (b=9∨b=32)):=by unfold ed;rw [if_neg mL,if_neg lu,if_neg lU,if_neg mr,if_neg mi,if_neg fg,if_pos rU]
 have e2:isOk name=true:=by unfold isOk;simp [rU]
 exact ⟨(by rw [e1,e2];all_goals exact iD (by (first|rfl|(rw [Bool.eq_iff_iff];(try simp only [ki,kq,iZ,Bool.or_eq_true,Bool.and_eq_true,Bool.not_eq_true',decide_eq_true_eq,decide_eq_false_iff_not,Bool.false_eq_true,iff_false,iff_true,true_iff,false_iff] at*);omega)))),H0.ag⟩
 refine gr 8 (h:=?_)
 have e1:ed name b=(decide (b=9∨b=32)):=by unfold ed;rw [if_neg mL,if_neg lu,if_neg lU,if_neg mr,if_neg mi,if_neg fg,if_pos rU]
 have e2:isOk name=true:=by unfold isOk;simp [rU]
 exact ⟨(by rw [e1,e2];all_goals exact iD (by (first|rfl|(rw [Bool.eq_iff_iff];(try simp only [ki,kq,iZ,Bool.or_eq_true,Bool.and_eq_true,Bool.not_eq_true',decide_eq_true_eq,decide_eq_false_iff_not,Bool.false_eq_true,iff_false,iff_true,true_iff,false_iff] at*);omega)))),H0.ag⟩
 refine aL 6 (fun qL=>?_) fun qL=>?_
 refine bZ 5 63 (fun QR=>?_) fun QR=>?_
 refine bZ 4 67 (fun IK=>?_) fun IK=>?_
 refine ae 1 (h:=aM (c:=BR b w) (k:=?_))
 rintro _ w9 ⟨rfl,u9⟩
 have H9:=H0.call u9
 refine ik 3 72 (fun FN=>?_) fun FN=>?_
 refine ae 1 (h:=aM (c:=Cw b w9) (k:=?_))
 rintro _ gK ⟨rfl,qZ⟩
 have bO:=H9.call qZ
 refine ik 3 77 (fun yF=>?_) fun yF=>?_
 refine ae 1 (h:=aM (c:=uD b gK) (k:=?_))
 rintro _ iu ⟨rfl,zJ⟩
 have bR:=bO.call zJ
 refine cG 6 [5,4] (h:=gr 1 (h:=?_))
 have e1:ed name b=(decide (33≤b∧b≤126)&& !ki b&& !kq b&& !iZ b):=by unfold ed;rw [if_neg mL,if_neg lu,if_neg lU,if_neg mr,if_neg mi,if_neg fg,if_neg rU,if_pos qL]
 have e2:isOk name=true:=by unfold isOk;simp [qL]
 exact ⟨(by rw [e1,e2];all_goals exact iD (by (first|rfl|(rw [Bool.eq_iff_iff];(try simp only [ki,kq,iZ,Bool.or_eq_true,Bool.and_eq_true,Bool.not_eq_true',decide_eq_true_eq,decide_eq_false_iff_not,Bool.false_eq_true,iff_false,iff_true,true_iff,false_iff] at*);omega)))),bR.ag⟩
 refine cG 8 [5,4] (h:=gr 1 (h:=?_))
 have e1:ed name b=(decide (33≤b∧b≤126)&& !ki b&& !kq b&& !iZ b):=by unfold ed;rw [if_neg mL,if_neg lu,if_neg lU,if_neg mr,if_neg mi,if_neg fg,if_neg rU,if_pos qL]
 have e2:isOk name=true:=by unfold isOk;simp [qL]
 exact ⟨(by rw [e1,e2];all_goals exact iD (by (first|rfl|(rw [Bool.eq_iff_iff];(try simp only [ki,kq,iZ,Bool.or_eq_true,Bool.and_eq_true,Bool.not_eq_true',decide_eq_true_eq,decide_eq_false_iff_not,Bool.false_eq_true,iff_false,iff_true,true_iff,false_iff] at*);omega)))),bO.ag⟩
 refine cG 13 [5,4] (h:=gr 1 (h:=?_))
 have e1:ed name b=(decide (33≤b∧b≤126)&& !ki b&& !kq b&& !iZ b):=by unfold ed;rw [if_neg mL,if_neg lu,if_neg lU,if_neg mr,if_neg mi,if_neg fg,if_neg rU,if_pos qL]
 have e2:isOk name=true:=by unfold isOk;simp [qL]
 exact ⟨(by rw [e1,e2];all_goals exact iD (by (first|rfl|(rw [Bool.eq_iff_iff];(try simp only [ki,kq,iZ,Bool.or_eq_true,Bool.and_eq_true,Bool.not_eq_true',decide_eq_true_eq,decide_eq_false_iff_not,Bool.false_eq_true,iff_false,iff_true,true_iff,false_iff] at*);omega)))),H9.ag⟩
 refine cG 18 [5,4] (h:=gr 1 (h:=?_))
 have e1:ed name b=(decide (33≤b∧b≤126)&& !ki b&& !kq b&& !iZ b):=by unfold ed;rw [if_neg mL,if_neg lu,if_neg lU,if_neg mr,if_neg mi,if_neg fg,if_neg rU,if_pos qL]
 have e2:isOk name=true:=by unfold isOk;simp [qL]
 exact ⟨(by rw [e1,e2];all_goals exact iD (by (first|rfl|(rw [Bool.eq_iff_iff];(try simp only [ki,kq,iZ,Bool.or_eq_true,Bool.and_eq_true,Bool.not_eq_true',decide_eq_true_eq,decide_eq_false_iff_not,Bool.false_eq_true,iff_false,iff_true,true_iff,false_iff] at*);omega)))),H0.ag⟩
 refine cG 22 [5,4] (h:=gr 1 (h:=?_))
 have e1:ed name b=(decide (33≤b∧b≤126)&& !ki b&& !kq b&& !iZ b):=by unfold ed;rw [if_neg mL,if_neg lu,if_neg lU,if_neg mr,if_neg mi,if_neg fg,if_neg rU,if_pos qL]
 have e2:isOk name=true:=by unfold isOk;simp [qL]
 exact ⟨(by rw [e1,e2];all_goals exact iD (by (first|rfl|(rw [Bool.eq_iff_iff];(try simp only [ki,kq,iZ,Bool.or_eq_true,Bool.and_eq_true,Bool.not_eq_true',decide_eq_true_eq,decide_eq_false_iff_not,Bool.false_eq_true,iff_false,iff_true,true_iff,false_iff] at*);omega)))),H0.ag⟩
 refine aL 6 (fun ju=>?_) fun ju=>?_
 refine bZ 5 86 (fun g33=>?_) fun g33=>?_
 refine gr 8 (h:=?_)
 have e1:ed name b=(decide (33≤b∧b≤126)):=by unfold ed;rw [if_neg mL,if_neg lu,if_neg lU,if_neg mr,if_neg mi,if_neg fg,if_neg rU,if_neg qL,if_pos ju]
 have e2:isOk name=true:=by unfold isOk;simp [ju]
 exact ⟨(by rw [e1,e2];all_goals exact iD (by (first|rfl|(rw [Bool.eq_iff_iff];(try simp only [ki,kq,iZ,Bool.or_eq_true,Bool.and_eq_true,Bool.not_eq_true',decide_eq_true_eq,decide_eq_false_iff_not,Bool.false_eq_true,iff_false,iff_true,true_iff,false_iff] at*);omega)))),H0.ag⟩
 refine gr 8 (h:=?_)
 have e1:ed name b=(decide (33≤b∧b≤126)):=by unfold ed;rw [if_neg mL,if_neg lu,if_neg lU,if_neg mr,if_neg mi,if_neg fg,if_neg rU,if_neg qL,if_pos ju]
 have e2:isOk name=true:=by unfold isOk;simp [ju]
 exact ⟨(by rw [e1,e2];all_goals exact iD (by (first|rfl|(rw [Bool.eq_iff_iff];(try simp only [ki,kq,iZ,Bool.or_eq_true,Bool.and_eq_true,Bool.not_eq_true',decide_eq_true_eq,decide_eq_false_iff_not,Bool.false_eq_true,iff_false,iff_true,true_iff,false_iff] at*);omega)))),H0.ag⟩
 refine aL 6 (fun Gn=>?_) fun Gn=>?_
 refine bZ 5 94 (fun g35=>?_) fun g35=>?_
 refine cG 7 [5,4] (h:=gr 1 (h:=?_))
 have e1:ed name b=(decide (32≤b∧b≤126)):=by unfold ed;rw [if_neg mL,if_neg lu,if_neg lU,if_neg mr,if_neg mi,if_neg fg,if_neg rU,if_neg qL,if_neg ju,if_pos Gn]
 have e2:isOk name=true:=by unfold isOk;simp [Gn]
 exact ⟨(by rw [e1,e2];all_goals exact iD (by (first|rfl|(rw [Bool.eq_iff_iff];(try simp only [ki,kq,iZ,Bool.or_eq_true,Bool.and_eq_true,Bool.not_eq_true',decide_eq_true_eq,decide_eq_false_iff_not,Bool.false_eq_true,iff_false,iff_true,true_iff,false_iff] at*);omega)))),H0.ag⟩
 refine cG 7 [5,4] (h:=gr 1 (h:=?_))
 have e1:ed name b=(decide (32≤b∧b≤126)):=by unfold ed;rw [if_neg mL,if_neg lu,if_neg lU,if_neg mr,if_neg mi,if_neg fg,if_neg rU,if_neg qL,if_neg ju,if_pos Gn]
 have e2:isOk name=true:=by unfold isOk;simp [Gn]
 exact ⟨(by rw [e1,e2];all_goals exact iD (by (first|rfl|(rw [Bool.eq_iff_iff];(try simp only [ki,kq,iZ,Bool.or_eq_true,Bool.and_eq_true,Bool.not_eq_true',decide_eq_true_eq,decide_eq_false_iff_not,Bool.false_eq_true,iff_false,iff_true,true_iff,false_iff] at*);omega)))),H0.ag⟩
 refine aL 6 (fun C7=>?_) fun C7=>?_
 refine bZ 5 102 (fun g37=>?_) fun g37=>?_
 refine cG 7 [5,4] (h:=gr 1 (h:=?_))
 have e1:ed name b=(decide (b<32∨b=127)):=by unfold ed;rw [if_neg mL,if_neg lu,if_neg lU,if_neg mr,if_neg mi,if_neg fg,if_neg rU,if_neg qL,if_neg ju,if_neg Gn,if_pos C7]
 have e2:isOk name=true:=by unfold isOk;simp [C7]
 exact ⟨(by rw [e1,e2];all_goals exact iD (by (first|rfl|(rw [Bool.eq_iff_iff];(try simp only [ki,kq,iZ,Bool.or_eq_true,Bool.and_eq_true,Bool.not_eq_true',decide_eq_true_eq,decide_eq_false_iff_not,Bool.false_eq_true,iff_false,iff_true,true_iff,false_iff] at*);omega)))),H0.ag⟩
 refine cG 7 [5,4] (h:=gr 1 (h:=?_))
 have e1:ed name b=(decide (b<32∨b=127)):=by unfold ed;rw [if_neg mL,if_neg lu,if_neg lU,if_neg mr,if_neg mi,if_neg fg,if_neg rU,if_neg qL,if_neg ju,if_neg Gn,if_pos C7]
 have e2:isOk name=true:=by unfold isOk;simp [C7]
 exact ⟨(by rw [e1,e2];all_goals exact iD (by (first|rfl|(rw [Bool.eq_iff_iff];(try simp only [ki,kq,iZ,Bool.or_eq_true,Bool.and_eq_true,Bool.not_eq_true',decide_eq_true_eq,decide_eq_false_iff_not,Bool.false_eq_true,iff_false,iff_true,true_iff,false_iff] at*);omega)))),H0.ag⟩
 refine aL 6 (fun tp=>?_) fun tp=>?_
 refine ae 3 (h:=aM (c:=uD b w) (k:=?_))
 rintro _ iW ⟨rfl,xh⟩
 have cm:=H0.call xh
 refine ik 1 110 (fun g39=>?_) fun g39=>?_
 refine cG 19 [5,4] (h:=gr 1 (h:=?_))
 have e1:ed name b=(iZ b||decide (65≤b∧b≤70∨97≤b∧b≤102)):=by unfold ed;rw [if_neg mL,if_neg lu,if_neg lU,if_neg mr,if_neg mi,if_neg fg,if_neg rU,if_neg qL,if_neg ju,if_neg Gn,if_neg C7,if_pos tp]
 have e2:isOk name=true:=by unfold isOk;simp [tp]
 exact ⟨(by rw [e1,e2];all_goals exact iD (by (first|rfl|(rw [Bool.eq_iff_iff];(try simp only [ki,kq,iZ,Bool.or_eq_true,Bool.and_eq_true,Bool.not_eq_true',decide_eq_true_eq,decide_eq_false_iff_not,Bool.false_eq_true,iff_false,iff_true,true_iff,false_iff] at*);omega)))),cm.ag⟩
 refine bZ 3 113 (fun QQ=>?_) fun QQ=>?_
 refine bZ 5 118 (fun QP=>?_) fun QP=>?_
 refine cG 11 [5,4] (h:=gr 1 (h:=?_))
 have e1:ed name b=(iZ b||decide (65≤b∧b≤70∨97≤b∧b≤102)):=by unfold ed;rw [if_neg mL,if_neg lu,if_neg lU,if_neg mr,if_neg mi,if_neg fg,if_neg rU,if_neg qL,if_neg ju,if_neg Gn,if_neg C7,if_pos tp]
 have e2:isOk name=true:=by unfold isOk;simp [tp]
 exact ⟨(by rw [e1,e2];all_goals exact iD (by (first|rfl|(rw [Bool.eq_iff_iff];(try simp only [ki,kq,iZ,Bool.or_eq_true,Bool.and_eq_true,Bool.not_eq_true',decide_eq_true_eq,decide_eq_false_iff_not,Bool.false_eq_true,iff_false,iff_true,true_iff,false_iff] at*);omega)))),cm.ag⟩
 refine bZ 3 121 (fun Yq=>?_) fun Yq=>?_
 refine cG 8 [5,4] (h:=gr 1 (h:=?_))
 have e1:ed name b=(iZ b||decide (65≤b∧b≤70∨97≤b∧b≤102)):=by unfold ed;rw [if_neg mL,if_neg lu,if_neg lU,if_neg mr,if_neg mi,if_neg fg,if_neg rU,if_neg qL,if_neg ju,if_neg Gn,if_neg C7,if_pos tp]
 have e2:isOk name=true:=by unfold isOk;simp [tp]
 exact ⟨(by rw [e1,e2];all_goals exact iD (by (first|rfl|(rw [Bool.eq_iff_iff];(try simp only [ki,kq,iZ,Bool.or_eq_true,Bool.and_eq_true,Bool.not_eq_true',decide_eq_true_eq,decide_eq_false_iff_not,Bool.false_eq_true,iff_false,iff_true,true_iff,false_iff] at*);omega)))),cm.ag⟩
 refine cG 8 [5,4] (h:=gr 1 (h:=?_))
 have e1:ed name b=(iZ b||decide (65≤b∧b≤70∨97≤b∧b≤102)):=by unfold ed;rw [if_neg mL,if_neg lu,if_neg lU,if_neg mr,if_neg mi,if_neg fg,if_neg rU,if_neg qL,if_neg ju,if_neg Gn,if_neg C7,if_pos tp]
 have e2:isOk name=true:=by unfold isOk;simp [tp]
 exact ⟨(by rw [e1,e2];all_goals exact iD (by (first|rfl|(rw [Bool.eq_iff_iff];(try simp only [ki,kq,iZ,Bool.or_eq_true,Bool.and_eq_true,Bool.not_eq_true',decide_eq_true_eq,decide_eq_false_iff_not,Bool.false_eq_true,iff_false,iff_true,true_iff,false_iff] at*);omega)))),cm.ag⟩
 refine bZ 8 121 (fun QP=>?_) fun QP=>?_
 refine cG 8 [5,4] (h:=gr 1 (h:=?_))
 have e1:ed name b=(iZ b||decide (65≤b∧b≤70∨97≤b∧b≤102)):=by unfold ed;rw [if_neg mL,if_neg lu,if_neg lU,if_neg mr,if_neg mi,if_neg fg,if_neg rU,if_neg qL,if_neg ju,if_neg Gn,if_neg C7,if_pos tp]
 have e2:isOk name=true:=by unfold isOk;simp [tp]
 exact ⟨(by rw [e1,e2];all_goals exact iD (by (first|rfl|(rw [Bool.eq_iff_iff];(try simp only [ki,kq,iZ,Bool.or_eq_true,Bool.and_eq_true,Bool.not_eq_true',decide_eq_true_eq,decide_eq_false_iff_not,Bool.false_eq_true,iff_false,iff_true,true_iff,false_iff] at*);omega)))),cm.ag⟩
 refine cG 8 [5,4] (h:=gr 1 (h:=?_))
 have e1:ed name b=(iZ b||decide (65≤b∧b≤70∨97≤b∧b≤102)):=by unfold ed;rw [if_neg mL,if_neg lu,if_neg lU,if_neg mr,if_neg mi,if_neg fg,if_neg rU,if_neg qL,if_neg ju,if_neg Gn,if_neg C7,if_pos tp]
 have e2:isOk name=true:=by unfold isOk;simp [tp]
 exact ⟨(by rw [e1,e2];all_goals exact iD (by (first|rfl|(rw [Bool.eq_iff_iff];(try simp only [ki,kq,iZ,Bool.or_eq_true,Bool.and_eq_true,Bool.not_eq_true',decide_eq_true_eq,decide_eq_false_iff_not,Bool.false_eq_true,iff_false,iff_true,true_iff,false_iff] at*);omega)))),cm.ag⟩
 refine gr 10 (h:=?_)
 have e1:ed name b=(false):=by unfold ed;rw [if_neg mL,if_neg lu,if_neg lU,if_neg mr,if_neg mi,if_neg fg,if_neg rU,if_neg qL,if_neg ju,if_neg Gn,if_neg C7,if_neg tp]
 have e2:isOk name=false:=by unfold isOk;simp [mL,lu,lU,mr,mi,fg,rU,qL,ju,Gn,C7,tp]
 exact ⟨(by rw [e1,e2];all_goals exact iD (by (first|rfl|(rw [Bool.eq_iff_iff];(try simp only [ki,kq,iZ,Bool.or_eq_true,Bool.and_eq_true,Bool.not_eq_true',decide_eq_true_eq,decide_eq_false_iff_not,Bool.false_eq_true,iff_false,iff_true,true_iff,false_iff] at*);omega)))),H0.ag⟩
theorem Hy (name:ByteArray) (w:World):
 Calls Tryz.prog 167 #[.string name] w (bj fun v w'=>v= .tuple #[.agg #[av (dc (ed name)).w0,av (dc (ed name)).w1,av (dc (ed name)).w2,av (dc (ed name)).w3],.bool (isOk name)]∧aE w [] w' []):=by
 refine cL Tryz.func167 (h:=fun H0=>ae 2 (h:=da H0 (k:=fun w1 H1=>ae 5 (h:=da H1 (k:=fun w2 H2=>ae 5 (h:=aM (c:=CC _ 0 w2) (k:=?_)))))))
 rintro _ w3 ⟨rfl,u3⟩
 have H3:=H2.call u3
 have H4:=H3.ps [1,0]
 refine cY 14 [7,6,4,3,2,0] (fun B R L m e v=>∃k,∃r:Bs,e=(7,bJ k)::B∧aA w L v ([bm w1.heap.size #[av r.w0,av r.w1,av r.w2,av r.w3] 87]::R)∧(k≤256)∧(∀x,x<256→r.has x=(decide (x<k)&&ed name x))∧m=256-k) (i:=⟨0,Bs.zero,rfl,H4,om,(by intro x hx;rw [eo];simp),rfl⟩) (h:=?_)
 rintro m1 Γ1 w4 ⟨k,r,rfl,H5,hk,hr,rfl⟩
 refine aL 7 (fun Zg=>?_) fun Zg=>?_
 refine ae 8 (h:=aM (c:=CC _ k w4) (k:=?_))
 rintro _ w5 ⟨rfl,u4⟩
 have H6:=H5.call u4
 refine cS 12 (fun RJ=>?_) fun RJ=>?_
 refine ae 1 (h:=b8 (H6.b 0) (k:=ae 1 (h:=aM (c:=pe r _ k w5 oz oz) (k:=?_))))
 rintro _ w6 ⟨rfl,u5⟩
 have H7:=H6.call u5
 exact aU 0 (h:=bC H7 0 (k:=fun w7 H8=>ae 5 (h:=aX (k:=b6 2 (h:=by exact ⟨k+1,(kB r k),rfl,H8,om,(by first|exact l5 oz RJ hr|exact pd (by simpa using RJ) hr),rfl⟩)))))
 exact ae 5 (h:=aX (k:=b6 2 (h:=by exact ⟨k+1,r,rfl,H6,om,(by first|exact l5 oz RJ hr|exact pd (by simpa using RJ) hr),rfl⟩)))
 refine ae 4 (h:=b8 (H5.b 0) (k:=aU 1 (h:=bC H5 1 (k:=fun w8 H9=>fx 4 (h1:=cK (H9.b 1)) (h2:=cZ) (h:=?_)))))
 have e:r=dc (ed name):=pE fun x hx=>by rw [hr x hx,decide_eq_true oz,Bool.true_and]
 exact ⟨(by first|(rw [e];done)|(rw [e];rfl)),H9.ag⟩
theorem O6 (c:Nat) (w:World):
 Calls Tryz.prog 137 #[bJ c] w (bj fun v w'=>v= .tuple #[.agg #[av (dc (kr c)).w0,av (dc (kr c)).w1,av (dc (kr c)).w2,av (dc (kr c)).w3],.bool (decide (dc (kr c)≠Bs.zero))]∧aE w [] w' []):=by
 refine cL Tryz.func137 (h:=fun H0=>ae 2 (h:=da H0 (k:=fun w1 H1=>ae 5 (h:=da H1 (k:=fun w2 H2=>?_)))))
 have H3:=H2.ps [1,0]
 refine cY 9 [5,4,3,2,0] (fun B R L m e v=>∃k,∃r:Bs,e=(5,bJ k)::B∧aA w L v ([bm w1.heap.size #[av r.w0,av r.w1,av r.w2,av r.w3] 87]::R)∧(k≤256)∧(∀x,x<256→r.has x=(decide (x<k)&&kr c x))∧m=256-k) (i:=⟨0,Bs.zero,rfl,H3,om,(by intro x hx;rw [eo];simp),rfl⟩) (h:=?_)
 rintro m1 Γ1 w3 ⟨k,r,rfl,H4,hk,hr,rfl⟩
 refine aL 7 (fun Lh=>?_) fun Lh=>?_
 refine ae 7 (h:=aM (c:=CC _ k w3) (k:=?_))
 rintro _ w4 ⟨rfl,u3⟩
 have H5:=H4.call u3
 refine ae 10 (h:=aM (c:=CC _ k w4) (k:=?_))
 rintro _ w5 ⟨rfl,u4⟩
 have H6:=H5.call u4
 refine mK 12 [5,4,3,2,0] 0 H6 (fun B R L e v=>∃q:Bool,e=(10,.bool q)::B∧aA w L v (R)∧(q=kr c k)) ?_ ?_
 refine aL 12 (fun Ze=>?_) fun Ze=>?_
 exact cy 6 (h:=by exact ⟨decide (((k:Nat):Int)=(10:Int)),rfl,H6,(by rw [show kr c k=(decide (k=10)) by unfold kr;rw [if_pos oz]];all_goals (first|rfl|(simp_all;done)|(rw [Bool.eq_iff_iff];simp only [Bool.or_eq_true,Bool.and_eq_true,Bool.not_eq_true',decide_eq_true_eq,decide_eq_false_iff_not,ne_eq];first|omega|(simp_all;omega))))⟩)
 refine aL 6 (fun N2=>?_) fun N2=>?_
 exact cy 6 (h:=by exact ⟨decide (((k:Nat):Int)=(9:Int)),rfl,H6,(by rw [show kr c k=(decide (k=9)) by unfold kr;rw [if_neg oz,if_pos oz]];all_goals (first|rfl|(simp_all;done)|(rw [Bool.eq_iff_iff];simp only [Bool.or_eq_true,Bool.and_eq_true,Bool.not_eq_true',decide_eq_true_eq,decide_eq_false_iff_not,ne_eq];first|omega|(simp_all;omega))))⟩)
 refine aL 6 (fun Ji=>?_) fun Ji=>?_
 exact cy 6 (h:=by exact ⟨decide (((k:Nat):Int)=(13:Int)),rfl,H6,(by rw [show kr c k=(decide (k=13)) by unfold kr;rw [if_neg oz,if_neg oz,if_pos oz]];all_goals (first|rfl|(simp_all;done)|(rw [Bool.eq_iff_iff];simp only [Bool.or_eq_true,Bool.and_eq_true,Bool.not_eq_true',decide_eq_true_eq,decide_eq_false_iff_not,ne_eq];first|omega|(simp_all;omega))))⟩)
 refine cG 6 [45,25,8,6,5,4,3,2,0] (h:=aL 0 (fun Zb=>?_) fun Zb=>?_)
 refine ae 2 (h:=aM (c:=uD k w5) (k:=?_))
 rintro _ w6 ⟨rfl,u5⟩
 have H7:=H6.call u5
 exact cy 3 (h:=by exact ⟨iZ k,rfl,H7,(by rw [show kr c k=(iZ k) by unfold kr;rw [if_neg oz,if_neg oz,if_neg oz,if_pos oz]];all_goals (first|rfl|(simp_all;done)|(rw [Bool.eq_iff_iff];simp only [Bool.or_eq_true,Bool.and_eq_true,Bool.not_eq_true',decide_eq_true_eq,decide_eq_false_iff_not,ne_eq];first|omega|(simp_all;omega))))⟩)
 refine aL 6 (fun U7=>?_) fun U7=>?_
 refine ae 2 (h:=aM (c:=uD k w5) (k:=?_))
 rintro _ w7 ⟨rfl,u6⟩
 have H8:=H6.call u6
 exact cy 4 (h:=by exact ⟨!(iZ k),rfl,H8,(by rw [show kr c k=(!iZ k) by unfold kr;rw [if_neg oz,if_neg oz,if_neg oz,if_neg oz,if_pos oz]];all_goals (first|rfl|(simp_all;done)|(rw [Bool.eq_iff_iff];simp only [Bool.or_eq_true,Bool.and_eq_true,Bool.not_eq_true',decide_eq_true_eq,decide_eq_false_iff_not,ne_eq];first|omega|(simp_all;omega))))⟩)
 refine aL 6 (fun c75=>?_) fun c75=>?_
 exact cy 5 (h:=by exact ⟨ed ⟨#[115,112,97,99,101]⟩ k,rfl,H6,(by rw [show kr c k=(ed ⟨#[115,112,97,99,101]⟩ k) by unfold kr;rw [if_neg oz,if_neg oz,if_neg oz,if_neg oz,if_neg oz,if_pos oz]];all_goals (first|rfl|(simp_all;done)|(rw [Bool.eq_iff_iff];simp only [Bool.or_eq_true,Bool.and_eq_true,Bool.not_eq_true',decide_eq_true_eq,decide_eq_false_iff_not,ne_eq];first|omega|(simp_all;omega))))⟩)
 refine aL 6 (fun c77=>?_) fun c77=>?_
 exact cy 6 (h:=by exact ⟨!(ed ⟨#[115,112,97,99,101]⟩ k),rfl,H6,(by rw [show kr c k=(!ed ⟨#[115,112,97,99,101]⟩ k) by unfold kr;rw [if_neg oz,if_neg oz,if_neg oz,if_neg oz,if_neg oz,if_neg oz,if_pos oz]];all_goals (first|rfl|(simp_all;done)|(rw [Bool.eq_iff_iff];simp only [Bool.or_eq_true,Bool.and_eq_true,Bool.not_eq_true',decide_eq_true_eq,decide_eq_false_iff_not,ne_eq];first|omega|(simp_all;omega))))⟩)
 refine aL 6 (fun Za=>?_) fun Za=>?_
 refine ik 3 64 (fun g80=>?_) fun g80=>?_
 exact cy 6 (h:=by exact ⟨true,rfl,H6,(by rw [show kr c k=(ed ⟨#[97,108,110,117,109]⟩ k||decide (k=95)) by unfold kr;rw [if_neg oz,if_neg oz,if_neg oz,if_neg oz,if_neg oz,if_neg oz,if_neg oz,if_pos oz]];all_goals (first|rfl|(simp_all;done)|(rw [Bool.eq_iff_iff];simp only [Bool.or_eq_true,Bool.and_eq_true,Bool.not_eq_true',decide_eq_true_eq,decide_eq_false_iff_not,ne_eq];first|omega|(simp_all;omega))))⟩)
 exact cy 6 (h:=by exact ⟨decide (((k:Nat):Int)=(95:Int)),rfl,H6,(by rw [show kr c k=(ed ⟨#[97,108,110,117,109]⟩ k||decide (k=95)) by unfold kr;rw [if_neg oz,if_neg oz,if_neg oz,if_neg oz,if_neg oz,if_neg oz,if_neg oz,if_pos oz]];all_goals (first|rfl|(simp_all;done)|(rw [Bool.eq_iff_iff];simp only [Bool.or_eq_true,Bool.and_eq_true,Bool.not_eq_true',decide_eq_true_eq,decide_eq_false_iff_not,ne_eq];first|omega|(simp_all;omega))))⟩)
 refine aL 6 (fun Gi=>?_) fun Gi=>?_
 refine ik 4 72 (fun g82=>?_) fun g82=>?_
 exact cy 6 (h:=by exact ⟨decide (((k:Nat):Int)≠(95:Int)),rfl,H6,(by rw [show kr c k=(!ed ⟨#[97,108,110,117,109]⟩ k&&decide (k≠95)) by unfold kr;rw [if_neg oz,if_neg oz,if_neg oz,if_neg oz,if_neg oz,if_neg oz,if_neg oz,if_neg oz,if_pos oz]];all_goals (first|rfl|(simp_all;done)|(rw [Bool.eq_iff_iff];simp only [Bool.or_eq_true,Bool.and_eq_true,Bool.not_eq_true',decide_eq_true_eq,decide_eq_false_iff_not,ne_eq];first|omega|(simp_all;omega))))⟩)
 exact cy 6 (h:=by exact ⟨false,rfl,H6,(by rw [show kr c k=(!ed ⟨#[97,108,110,117,109]⟩ k&&decide (k≠95)) by unfold kr;rw [if_neg oz,if_neg oz,if_neg oz,if_neg oz,if_neg oz,if_neg oz,if_neg oz,if_neg oz,if_pos oz]];all_goals (first|rfl|(simp_all;done)|(rw [Bool.eq_iff_iff];simp only [Bool.or_eq_true,Bool.and_eq_true,Bool.not_eq_true',decide_eq_true_eq,decide_eq_false_iff_not,ne_eq];first|omega|(simp_all;omega))))⟩)
 refine bZ 5 29 (fun g84=>?_) fun g84=>?_
 exact cy 6 (h:=by exact ⟨!(ed ⟨#[97,108,110,117,109]⟩ k),rfl,H6,(by rw [show kr c k=(decide (k=c)&& !ed ⟨#[97,108,110,117,109]⟩ k) by unfold kr;rw [if_neg oz,if_neg oz,if_neg oz,if_neg oz,if_neg oz,if_neg oz,if_neg oz,if_neg oz,if_neg oz]];all_goals (first|rfl|(simp_all;done)|(rw [Bool.eq_iff_iff];simp only [Bool.or_eq_true,Bool.and_eq_true,Bool.not_eq_true',decide_eq_true_eq,decide_eq_false_iff_not,ne_eq];first|omega|(simp_all;omega))))⟩)
 exact cy 6 (h:=by exact ⟨false,rfl,H6,(by rw [show kr c k=(decide (k=c)&& !ed ⟨#[97,108,110,117,109]⟩ k) by unfold kr;rw [if_neg oz,if_neg oz,if_neg oz,if_neg oz,if_neg oz,if_neg oz,if_neg oz,if_neg oz,if_neg oz]];all_goals (first|rfl|(simp_all;done)|(rw [Bool.eq_iff_iff];simp only [Bool.or_eq_true,Bool.and_eq_true,Bool.not_eq_true',decide_eq_true_eq,decide_eq_false_iff_not,ne_eq];first|omega|(simp_all;omega))))⟩)
 rintro Γ2 w8 ⟨q,rfl,H9,hq⟩
 refine cS 5 (fun Y9=>?_) fun Y9=>?_
 refine ae 1 (h:=b8 (H9.b 0) (k:=ae 1 (h:=aM (c:=pe r _ k w8 oz oz) (k:=?_))))
 rintro _ w9 ⟨rfl,u7⟩
 have bO:=H9.call u7
 exact aU 0 (h:=bC bO 0 (k:=fun gK bR=>ae 5 (h:=aX (k:=b6 2 (h:=by exact ⟨k+1,(kB r k),rfl,bR,om,(by first|exact l5 oz (by rw [←hq];exact Y9) hr|exact pd (by rw [←hq];simpa using Y9) hr),rfl⟩)))))
 exact ae 5 (h:=aX (k:=b6 2 (h:=by exact ⟨k+1,r,rfl,H9,om,(by first|exact l5 oz (by rw [←hq];exact Y9) hr|exact pd (by rw [←hq];simpa using Y9) hr),rfl⟩)))
 refine eI 3 H4 (h:=fun iu cm=>cP 0 0 (cm.b 0) (D:=fun _ hC=>b8 hC) (h:=cP 0 1 (cm.b 0) (D:=fun _ hC=>b8 hC) (h:=gZ 0 2 (D:=fun _=>ck (us:=[av Bs.zero.w0,av Bs.zero.w1,av Bs.zero.w2,av Bs.zero.w3])) (h:=?_))))
 refine mN 0 3 ⟨_,_,_,rfl,rfl,rfl,rfl,rfl,rfl⟩ (fun _=>C2 r Bs.zero rfl rfl Tryz.underlying87 Tryz.underlying85 km iX ⟨rfl,rfl⟩) (c7 0 4 (D:=bC cm 1 (k:=fun iW cW=>?_)))
 refine ⟨⟨trivial,trivial,(cW.b 0),trivial⟩,?_⟩
 refine fx 4 (h1:=cK (cW.b 1)) (h2:=cZ) (h:=?_)
 have e:r=dc (kr c):=pE fun x hx=>by rw [hr x hx,decide_eq_true oz,Bool.true_and]
 exact ⟨(by first|(rw [e];done)|(rw [e];rfl)),cW.ag⟩
end Go.Proofs.YtpbgmkhmdbchpaaGreatDoor
namespace Go.Proofs
open Go.Shelf
def Tryz.Fi:Go.Shelf.Ren:=⟨fun|145=>193|220=>202|219=>216|217=>223|225=>224|224=>225|267=>226|266=>228|314=>229|n=>n,fun|9=>9|4=>4|59=>279|3=>3|5=>5|46=>165|146=>313|51=>300|n=>n,fun|1=>1|n=>n⟩
theorem Tryz.TZ:Go.Proofs.Lays.n145 Tryz.prog Tryz.Fi:= {
  mixed:=by kernel_rfl
  f145:=Tryz.func193.trans (congrArg some (by kernel_rfl))
  f217:=Tryz.func223.trans (congrArg some (by kernel_rfl))
  f219:=Tryz.func216.trans (congrArg some (by kernel_rfl))
  f220:=Tryz.func202.trans (congrArg some (by kernel_rfl))
  f224:=Tryz.func225.trans (congrArg some (by kernel_rfl))
  f225:=Tryz.func224.trans (congrArg some (by kernel_rfl))
  f266:=Tryz.func228.trans (congrArg some (by kernel_rfl))
  f267:=Tryz.func226.trans (congrArg some (by kernel_rfl))
  f314:=Tryz.func229.trans (congrArg some (by kernel_rfl))
  t3:=Tryz.underlying3
  a3:=Tryz.isAgg3
  z3:=Tryz.sizeOf3
  v3:=Tryz.zeroValue3
  t4:=Tryz.underlying4
  a4:=Tryz.isAgg4
  z4:=Tryz.sizeOf4
  v4:=Tryz.zeroValue4
  t5:=Tryz.underlying5
  a5:=Tryz.isAgg5
  z5:=Tryz.sizeOf5
  v5:=Tryz.zeroValue5
  t9:=Tryz.underlying9
  a9:=Tryz.isAgg9
  z9:=Tryz.sizeOf9
  v9:=Tryz.zeroValue9
  t46:=Tryz.underlying165
  a46:=Tryz.isAgg165
  z46:=Tryz.sizeOf165
  v46:=Tryz.zeroValue165
  t51:=Tryz.underlying300
  a51:=Tryz.isAgg300
  z51:=Tryz.sizeOf300
  v51:=Tryz.zeroValue300
  t59:=Tryz.underlying279
  a59:=Tryz.isAgg279
  z59:=Tryz.sizeOf279
  v59:=Tryz.zeroValue279
  t146:=Tryz.underlying313
  a146:=Tryz.isAgg313
  z146:=Tryz.sizeOf313
  v146:=Tryz.zeroValue313
  g1:=by kernel_rfl }
open Go.RowKit Go.Lib in
theorem Tryz.strings_Cut (s sep:ByteArray) (m:Int) (w:World) (hs:s.size<4294967281) (hm:w.cell? ⟨1,0,none⟩=some (.int .i64 m)):
    Calls Tryz.prog 193 #[.string s,.string sep] w fun e w'=>e= .returned (.tuple #[.string ⟨(Lib.cut s.data.toList sep.data.toList).1.toArray⟩,.string ⟨(Lib.cut s.data.toList sep.data.toList).2.1.toArray⟩,.bool (Lib.cut s.data.toList sep.data.toList).2.2])∧∃n,w'=w.drewN n:=Any.strings_Cut Tryz.TZ s sep m w hs hm
def Tryz.Fh:Go.Shelf.Ren:=⟨fun|189=>187|125=>200|257=>199|128=>214|129=>215|294=>205|295=>206|296=>207|297=>208|298=>209|299=>210|216=>211|300=>212|301=>213|328=>217|329=>218|330=>219|331=>220|332=>221|215=>222|343=>227|n=>n,fun|28=>25|3=>3|46=>165|0=>0|51=>300|53=>85|4=>4|183=>293|182=>292|131=>257|5=>5|9=>9|218=>304|222=>308|228=>311|229=>190|n=>n,fun|n=>n⟩
theorem Tryz.KF:Go.Proofs.Lays.n189 Tryz.prog Tryz.Fh:= {
  mixed:=by kernel_rfl
  f125:=Tryz.func200.trans (congrArg some (by kernel_rfl))
  f128:=Tryz.func214.trans (congrArg some (by kernel_rfl))
  f129:=Tryz.func215.trans (congrArg some (by kernel_rfl))
  f189:=Tryz.func187.trans (congrArg some (by kernel_rfl))
  f215:=Tryz.func222.trans (congrArg some (by kernel_rfl))
  f216:=Tryz.func211.trans (congrArg some (by kernel_rfl))
  f257:=Tryz.func199.trans (congrArg some (by kernel_rfl))
  f294:=Tryz.func205.trans (congrArg some (by kernel_rfl))
  f295:=Tryz.func206.trans (congrArg some (by kernel_rfl))
  f296:=Tryz.func207.trans (congrArg some (by kernel_rfl))
  f297:=Tryz.func208.trans (congrArg some (by kernel_rfl))
  f298:=Tryz.func209.trans (congrArg some (by kernel_rfl))
  f299:=Tryz.func210.trans (congrArg some (by kernel_rfl))
  f300:=Tryz.func212.trans (congrArg some (by kernel_rfl))
  f301:=Tryz.func213.trans (congrArg some (by kernel_rfl))
  f328:=Tryz.func217.trans (congrArg some (by kernel_rfl))
  f329:=Tryz.func218.trans (congrArg some (by kernel_rfl))
  f330:=Tryz.func219.trans (congrArg some (by kernel_rfl))
  f331:=Tryz.func220.trans (congrArg some (by kernel_rfl))
  f332:=Tryz.func221.trans (congrArg some (by kernel_rfl))
  f343:=Tryz.func227.trans (congrArg some (by kernel_rfl))
  t0:=Tryz.underlying0
  a0:=Tryz.isAgg0
  z0:=Tryz.sizeOf0
  v0:=Tryz.zeroValue0
  t3:=Tryz.underlying3
  a3:=Tryz.isAgg3
  z3:=Tryz.sizeOf3
  v3:=Tryz.zeroValue3
  t4:=Tryz.underlying4
  a4:=Tryz.isAgg4
  z4:=Tryz.sizeOf4
  v4:=Tryz.zeroValue4
  t5:=Tryz.underlying5
  a5:=Tryz.isAgg5
  z5:=Tryz.sizeOf5
  v5:=Tryz.zeroValue5
  t9:=Tryz.underlying9
  a9:=Tryz.isAgg9
  z9:=Tryz.sizeOf9
  v9:=Tryz.zeroValue9
  t28:=Tryz.underlying25
  a28:=Tryz.isAgg25
  z28:=Tryz.sizeOf25
  v28:=Tryz.zeroValue25
  t46:=Tryz.underlying165
  a46:=Tryz.isAgg165
  z46:=Tryz.sizeOf165
  v46:=Tryz.zeroValue165
  t51:=Tryz.underlying300
  a51:=Tryz.isAgg300
  z51:=Tryz.sizeOf300
  v51:=Tryz.zeroValue300
  t53:=Tryz.underlying85
  a53:=Tryz.isAgg85
  z53:=Tryz.sizeOf85
  v53:=Tryz.zeroValue85
  t131:=Tryz.underlying257
  a131:=Tryz.isAgg257
  z131:=Tryz.sizeOf257
  v131:=Tryz.zeroValue257
  t182:=Tryz.underlying292
  a182:=Tryz.isAgg292
  z182:=Tryz.sizeOf292
  v182:=Tryz.zeroValue292
  t183:=Tryz.underlying293
  a183:=Tryz.isAgg293
  z183:=Tryz.sizeOf293
  v183:=Tryz.zeroValue293
  t218:=Tryz.underlying304
  a218:=Tryz.isAgg304
  z218:=Tryz.sizeOf304
  v218:=Tryz.zeroValue304
  t222:=Tryz.underlying308
  a222:=Tryz.isAgg308
  z222:=Tryz.sizeOf308
  v222:=Tryz.zeroValue308
  t228:=Tryz.underlying311
  a228:=Tryz.isAgg311
  z228:=Tryz.sizeOf311
  v228:=Tryz.zeroValue311
  t229:=Tryz.underlying190
  a229:=Tryz.isAgg190
  z229:=Tryz.sizeOf190
  v229:=Tryz.zeroValue190 }
open Go.Sort Go.RowKit in
theorem Tryz.slices_Sort_int (bm off cap:Nat) (zs:List Int) (w:World) (hH:Holds (Value.int .i64) w bm off zs.toArray) (ahd:bm<w.heap.size) (DF:zs.length<4611686018427387904):
    Calls Tryz.prog 187 #[.slice (some ⟨bm,off,none⟩) zs.length cap] w fun e w'=>
      e= .returned (.tuple #[])∧∃n os,w'=grow (putRow (Value.int .i64) (Sort.ahead w n) bm off (zs.mergeSort fun x y=>decide (x≤y)).toArray) os:=Any.slices_Sort_int Tryz.KF bm off cap zs w hH ahd DF
def Tryz.Iw:Go.Shelf.Ren:=⟨fun|99=>192|206=>201|n=>n,fun|9=>9|4=>4|3=>3|n=>n,fun|n=>n⟩
theorem Tryz.XA:Go.Proofs.Lays.n99 Tryz.prog Tryz.Iw:= {
  mixed:=by kernel_rfl
  f99:=Tryz.func192.trans (congrArg some (by kernel_rfl))
  f206:=Tryz.func201.trans (congrArg some (by kernel_rfl))
  t3:=Tryz.underlying3
  a3:=Tryz.isAgg3
  z3:=Tryz.sizeOf3
  v3:=Tryz.zeroValue3
  t4:=Tryz.underlying4
  a4:=Tryz.isAgg4
  z4:=Tryz.sizeOf4
  v4:=Tryz.zeroValue4
  t9:=Tryz.underlying9
  a9:=Tryz.isAgg9
  z9:=Tryz.sizeOf9
  v9:=Tryz.zeroValue9 }
open Go.RowKit Go.Lib in
theorem Tryz.strings_HasPrefix (s p:ByteArray) (w:World):
    Calls Tryz.prog 192 #[.string s,.string p] w fun e w'=>e= .returned (.bool (Lib.hasPrefix s.data.toList p.data.toList))∧w'=w:=Any.strings_HasPrefix Tryz.XA s p w
def Tryz.Fj:Go.Shelf.Ren:=⟨fun|112=>108|n=>n,fun|28=>25|3=>3|4=>4|0=>0|n=>n,fun|n=>n⟩
theorem Tryz.KG:Go.Proofs.Lays.n112 Tryz.prog Tryz.Fj:= {
  mixed:=by kernel_rfl
  f112:=Tryz.func108.trans (congrArg some (by kernel_rfl))
  t0:=Tryz.underlying0
  a0:=Tryz.isAgg0
  z0:=Tryz.sizeOf0
  v0:=Tryz.zeroValue0
  t3:=Tryz.underlying3
  a3:=Tryz.isAgg3
  z3:=Tryz.sizeOf3
  v3:=Tryz.zeroValue3
  t4:=Tryz.underlying4
  a4:=Tryz.isAgg4
  z4:=Tryz.sizeOf4
  v4:=Tryz.zeroValue4
  t28:=Tryz.underlying25
  a28:=Tryz.isAgg25
  z28:=Tryz.sizeOf25
  v28:=Tryz.zeroValue25 }
open Go.RowKit Go.Lib Go.Sort in
theorem Tryz.slices_Reverse_int (bm off cap:Nat) (zs:List Int) (w:World) (hH:Holds (Value.int .i64) w bm off zs.toArray) (DF:zs.length≤9223372036854775807):
    Calls Tryz.prog 108 #[.slice (some ⟨bm,off,none⟩) zs.length cap] w fun e w'=>e= .returned (.tuple #[])∧∃n,w'=putRow (Value.int .i64) (Sort.ahead w n) bm off zs.reverse.toArray:=Any.slices_Reverse_int Tryz.KG bm off cap zs w hH DF
open Go.RowKit Go.Lib Go.Sort in
theorem Tryz.slices_Reverse_int_empty (a:Option Addr) (cap:Nat) (w:World):
    Calls Tryz.prog 108 #[.slice a 0 cap] w fun e w'=>e= .returned (.tuple #[])∧w'=w:=Any.slices_Reverse_int_empty Tryz.KG a cap w
def Tryz.z7:Go.Shelf.Ren:=⟨fun|20=>188|n=>n,fun|22=>25|3=>3|4=>4|0=>0|n=>n,fun|n=>n⟩
theorem Tryz.Bc:Go.Proofs.Lays2.n20 Tryz.prog Tryz.z7:= {
  mixed:=by kernel_rfl
  f20:=Tryz.func188.trans (congrArg some (by kernel_rfl))
  t0:=Tryz.underlying0
  a0:=Tryz.isAgg0
  z0:=Tryz.sizeOf0
  v0:=Tryz.zeroValue0
  t3:=Tryz.underlying3
  a3:=Tryz.isAgg3
  z3:=Tryz.sizeOf3
  v3:=Tryz.zeroValue3
  t4:=Tryz.underlying4
  a4:=Tryz.isAgg4
  z4:=Tryz.sizeOf4
  v4:=Tryz.zeroValue4
  t22:=Tryz.underlying25
  a22:=Tryz.isAgg25
  z22:=Tryz.sizeOf25
  v22:=Tryz.zeroValue25
  i3:=by kernel_rfl }
open Go.RowKit Go.Lib Go.Sort in
theorem Tryz.slices_Compact_int (bm off cap:Nat) (zs:List Int) (w:World) (hH:Holds (Value.int .i64) w bm off zs.toArray) (DF:zs.length≤9223372036854775807) (acM:zs.length≤cap):
    Calls Tryz.prog 188 #[.slice (some ⟨bm,off,none⟩) zs.length cap] w fun e w'=>e= .returned (.slice (some ⟨bm,off,none⟩) (Lib.compact zs).length cap)∧∃q,w'=putRow (Value.int .i64) (Sort.ahead w q) bm off (Lib.compact zs++List.replicate (zs.length-(Lib.compact zs).length) 0).toArray:=Any.slices_Compact_int Tryz.Bc bm off cap zs w hH DF acM
open Go.RowKit Go.Lib Go.Sort in
theorem Tryz.slices_Compact_int_empty (a:Option Addr) (cap:Nat) (w:World):
    Calls Tryz.prog 188 #[.slice a 0 cap] w fun e w'=>e= .returned (.slice a 0 cap)∧w'=w:=Any.slices_Compact_int_empty Tryz.Bc a cap w
open Go.RowKit Go.Sort in
theorem Tryz.slices_Sort_int_none (p:Option Addr) (cap:Nat) (w:World):
    Calls Tryz.prog 187 #[.slice p 0 cap] w fun e w'=>e= .returned (.tuple #[])∧w'=w:=Any.slices_Sort_int_none Tryz.KF p cap w
end Go.Proofs
namespace Go.Proofs.YtpbgmkhmdbchpaaGreatDoor
open Go Go.Sx
theorem Eg (a:aO) (xs:List Int) (c:Nat) (n:Nat) (w:World) (hp:Hp w [aj (aw .i64) (.slice a n c) 3 xs]) (hn:n=xs.length) (DF:xs.length≤1000000000):
    Calls Tryz.prog 187 #[.slice a n c] w (bj fun v w'=>v= .tuple #[]∧aE w [aj (aw .i64) (.slice a n c) 3 xs] w' [aj (aw .i64) (.slice a n c) 3 (o4 xs)]):=by
  subst hn
  have ho:=nO (hp.holds _ (List.mem_singleton.2 rfl))
  cases a with
  | none=>
    have h0:xs=[]:=by
      rcases ho.2 with ⟨_,h⟩|⟨g,cap,cur,h,_⟩
      · exact List.length_eq_zero_iff.1 h
      · cases h
    subst h0
    refine (Tryz.slices_Sort_int_none none c w).mono ?_
    rintro e w' ⟨rfl,rfl⟩
    have e0:o4 []=[]:=by simp [o4]
    rw [e0]
    exact ⟨_,rfl,rfl,aE.refl hp⟩
  | some ad=>
    obtain ⟨g,hg⟩:∃g,ad=⟨g,0,none⟩:=by
      rcases ho.2 with ⟨h,_⟩|⟨g,cap,cur,h,_⟩
      · cases h
      · cases h;exact ⟨g,rfl⟩
    subst hg
    obtain ⟨hh,cX⟩:=uu ho
    refine (Tryz.slices_Sort_int g 0 c xs w hh cX oz).mono ?_
    rintro e w' ⟨rfl,q,os,rfl⟩
    exact ⟨_,rfl,rfl,BO ho (k5 xs)⟩
theorem vI (a:aO) (xs:List Int) (c:Nat) (n:Nat) (w:World) (hp:Hp w [aj (aw .i64) (.slice a n c) 3 xs]) (hn:n=xs.length) (DF:xs.length≤1000000000):
    Calls Tryz.prog 188 #[.slice a n c] w (bj fun v w'=>v= .slice a (Lib.compact xs).length c∧aE w [aj (aw .i64) (.slice a n c) 3 xs] w' [aj (aw .i64) (.slice a (Lib.compact xs).length c) 3 (Lib.compact xs)]):=by
  subst hn
  have ho:=nO (hp.holds _ (List.mem_singleton.2 rfl))
  cases a with
  | none=>
    have h0:xs=[]:=by
      rcases ho.2 with ⟨_,h⟩|⟨g,cap,cur,h,_⟩
      · exact List.length_eq_zero_iff.1 h
      · cases h
    subst h0
    refine (Tryz.slices_Compact_int_empty none c w).mono ?_
    rintro e w' ⟨rfl,rfl⟩
    have e0:Lib.compact ([]:List Int)=[]:=by simp [Lib.compact,Lib.compactUpTo]
    rw [e0]
    exact ⟨_,rfl,rfl,aE.refl hp⟩
  | some ad=>
    obtain ⟨g,hg⟩:∃g,ad=⟨g,0,none⟩:=by
      rcases ho.2 with ⟨h,_⟩|⟨g,cap,cur,h,_⟩
      · cases h
      · cases h;exact ⟨g,rfl⟩
    subst hg
    obtain ⟨hh,cX⟩:=uu ho
    refine (Tryz.slices_Compact_int g 0 c xs w hh oz (xY ho)).mono ?_
    rintro e w' ⟨rfl,q,rfl⟩
    have hle:=yV xs
    have hu:=BO (q:=q) (os:= #[]) (ys:=Lib.compact xs++List.replicate (xs.length-(Lib.compact xs).length) 0) ho gv
    rw [Go.Sort.grow_empty] at hu
    exact ⟨_,rfl,rfl,Oh (j:=(Lib.compact xs).length) hu (by simp) (by simp)⟩
theorem vj (a:aO) (xs:List Int) (c:Nat) (n:Nat) (w:World) (hp:Hp w [aj (aw .i64) (.slice a n c) 3 xs]) (hn:n=xs.length) (DF:xs.length≤1000000000):
    Calls Tryz.prog 108 #[.slice a n c] w (bj fun v w'=>v= .tuple #[]∧aE w [aj (aw .i64) (.slice a n c) 3 xs] w' [aj (aw .i64) (.slice a n c) 3 xs.reverse]):=by
  subst hn
  have ho:=nO (hp.holds _ (List.mem_singleton.2 rfl))
  cases a with
  | none=>
    have h0:xs=[]:=by
      rcases ho.2 with ⟨_,h⟩|⟨g,cap,cur,h,_⟩
      · exact List.length_eq_zero_iff.1 h
      · cases h
    subst h0
    refine (Tryz.slices_Reverse_int_empty none c w).mono ?_
    rintro e w' ⟨rfl,rfl⟩
    exact ⟨_,rfl,rfl,aE.refl hp⟩
  | some ad=>
    obtain ⟨g,hg⟩:∃g,ad=⟨g,0,none⟩:=by
      rcases ho.2 with ⟨h,_⟩|⟨g,cap,cur,h,_⟩
      · cases h
      · cases h;exact ⟨g,rfl⟩
    subst hg
    obtain ⟨hh,cX⟩:=uu ho
    refine (Tryz.slices_Reverse_int g 0 c xs w hh oz).mono ?_
    rintro e w' ⟨rfl,q,rfl⟩
    have hu:=BO (q:=q) (os:= #[]) (ys:=xs.reverse) ho (by simp)
    rw [Go.Sort.grow_empty] at hu
    exact ⟨_,rfl,rfl,hu⟩
end Go.Proofs.YtpbgmkhmdbchpaaGreatDoor
namespace Go.Sx
theorem dk {p:Prop} (h:p:=by simp only [List.length_singleton];omega):p:=h
end Go.Sx
namespace Go.Proofs.YtpbgmkhmdbchpaaGreatDoor
open Go Go.Sx
theorem tz (kd:Int) (w:World):
 Calls Tryz.prog 55 #[ak kd] w (bj fun v w'=>v=ak (cj kd)∧aE w [] w' []):=by
 refine cL Tryz.func55 (h:=fun H0=>aL 19 (fun c13=>?_) fun c13=>?_)
 refine aL 2 (fun RS=>?_) fun RS=>?_
 exact bE 6 (h:=⟨(by unfold cj;repeat (first|rw [if_pos oz]|rw [if_neg oz])),H0.ag⟩)
 exact absurd c13 RS
 refine aL 6 (fun RS=>?_) fun RS=>?_
 refine aL 2 (fun Gq=>?_) fun Gq=>?_
 exact bE 6 (h:=⟨(by unfold cj;repeat (first|rw [if_pos oz]|rw [if_neg oz])),H0.ag⟩)
 exact absurd RS Gq
 refine aL 6 (fun Gq=>?_) fun Gq=>?_
 refine aL 2 (fun Dc=>?_) fun Dc=>?_
 exact bE 6 (h:=⟨(by unfold cj;repeat (first|rw [if_pos oz]|rw [if_neg oz])),H0.ag⟩)
 exact absurd Gq Dc
 refine aL 5 (fun Dc=>?_) fun Dc=>?_
 exact bE 6 (h:=⟨(by unfold cj;repeat (first|rw [if_pos oz]|rw [if_neg oz])),H0.ag⟩)
 refine aL 6 (fun zE=>?_) fun zE=>?_
 exact bE 6 (h:=⟨(by unfold cj;repeat (first|rw [if_pos oz]|rw [if_neg oz])),H0.ag⟩)
 refine aL 7 (fun Wu=>?_) fun Wu=>?_
 refine aL 2 (fun Vb=>?_) fun Vb=>?_
 exact bE 6 (h:=⟨(by unfold cj;repeat (first|rw [if_pos oz]|rw [if_neg oz])),H0.ag⟩)
 exact absurd Wu Vb
 refine aL 5 (fun Vb=>?_) fun Vb=>?_
 exact bE 6 (h:=⟨(by unfold cj;repeat (first|rw [if_pos oz]|rw [if_neg oz])),H0.ag⟩)
 exact bE 9 (h:=⟨(by unfold cj;repeat (first|rw [if_pos oz]|rw [if_neg oz])),H0.ag⟩)
theorem pZ (kd:Int) (w:World):
 Calls Tryz.prog 73 #[ak kd] w (bj fun v w'=>v=ak (cj kd)∧aE w [] w' []):=by
 refine cL Tryz.func73 (h:=fun H0=>ae 7 (h:=db (aw .i64) [-1,0,0,0,0,2,2,1] H0 (k:=fun w1 H1=>bZ 9 7 (fun g9=>?_) fun g9=>?_)))
 exact bE 12 (h:=⟨(by unfold cj;repeat (first|rw [if_pos oz]|rw [if_neg oz])),H1.ag⟩)
 refine aL 5 (fun c9=>?_) fun c9=>?_
 exact bE 6 (h:=⟨(by unfold cj;repeat (first|rw [if_pos oz]|rw [if_neg oz])),H1.ag⟩)
 exact ae 6 (h:=bU kd.toNat (H1.rt 0) (cN:=gv) (hj:=gv) (k:=ae 0 (h:=cn (H1.rt 0) (hj:=gv) (k:=bE 4 (h:=⟨(by rcases (by omega:kd=1∨kd=2∨kd=3∨kd=4∨kd=5∨kd=6∨kd=7) with rfl|rfl|rfl|rfl|rfl|rfl|rfl<;>rfl),H1.ag⟩)))))
theorem IU (n:Nd) (w:World):
 Calls Tryz.prog 56 #[.agg #[ak n.kind,av n.set.w0,av n.set.w1,av n.set.w2,av n.set.w3,ak n.lo,ak n.hi]] w (bj fun v w'=>v= .bool (c8 n)∧aE w [] w' []):=by
 refine cL Tryz.func56 (h:=fun H0=>ae 2 (h:=gI H0 (k:=fun w1 H1=>ae 8 (h:=aH (H1.b 0) (k:=bZ 2 7 (fun Wn=>?_) fun Wn=>?_)))))
 refine ae 1 (h:=b8 (H1.b 0) (k:=ae 0 (h:=ck (us:=[av Bs.zero.w0,av Bs.zero.w1,av Bs.zero.w2,av Bs.zero.w3]) (k:=?_))))
 refine aR 0 rfl (C2 n.set Bs.zero rfl rfl Tryz.underlying87 Tryz.underlying85 km iX (aL 4 (fun fg=>?_) fun fg=>?_))
 exact bE 6 (h:=⟨(by congr 1;unfold c8;rw [Bool.eq_iff_iff];simp only [decide_eq_true_eq,Bool.false_eq_true,false_iff,true_iff];first|(simp_all;done)|(simp_all;omega)),H1.ag⟩)
 refine ae 3 (h:=aH (H1.b 0) (k:=aL 4 (fun rU=>?_) fun rU=>?_))
 refine ae 3 (h:=aH (H1.b 0) (k:=bZ 2 20 (fun Yr=>?_) fun Yr=>?_))
 exact ae 1 (h:=aH (H1.b 0) (k:=bE 6 (h:=⟨(by congr 1;unfold c8;rw [Bool.eq_iff_iff];simp only [decide_eq_true_eq,Bool.false_eq_true,false_iff,true_iff];first|(simp_all;done)|(simp_all;omega)),H1.ag⟩)))
 exact bE 8 (h:=⟨(by congr 1;unfold c8;rw [Bool.eq_iff_iff];simp only [decide_eq_true_eq,Bool.false_eq_true,false_iff,true_iff];first|(simp_all;done)|(simp_all;omega)),H1.ag⟩)
 refine ae 6 (h:=aH (H1.b 0) (k:=bZ 2 28 (fun QR=>?_) fun QR=>?_))
 refine ae 1 (h:=aH (H1.b 0) (k:=bZ 3 33 (fun IK=>?_) fun IK=>?_))
 refine ae 1 (h:=aH (H1.b 0) (k:=bZ 2 37 (fun FN=>?_) fun FN=>?_))
 exact cG 15 [2] (h:=bE 1 (h:=⟨(by congr 1;unfold c8;rw [Bool.eq_iff_iff];simp only [decide_eq_true_eq,Bool.false_eq_true,false_iff,true_iff];first|(simp_all;done)|(simp_all;omega)),H1.ag⟩))
 refine ae 1 (h:=aH (H1.b 0) (k:=ae 1 (h:=aH (H1.b 0) (k:=bZ 2 43 (fun yF=>?_) fun yF=>?_))))
 exact ae 1 (h:=aH (H1.b 0) (k:=cG 7 [2] (h:=bE 1 (h:=⟨(by congr 1;unfold c8;rw [Bool.eq_iff_iff];simp only [decide_eq_true_eq,Bool.false_eq_true,false_iff,true_iff];first|(simp_all;done)|(simp_all;omega)),H1.ag⟩))))
 exact cG 9 [2] (h:=bE 1 (h:=⟨(by congr 1;unfold c8;rw [Bool.eq_iff_iff];simp only [decide_eq_true_eq,Bool.false_eq_true,false_iff,true_iff];first|(simp_all;done)|(simp_all;omega)),H1.ag⟩))
 exact cG 19 [2] (h:=bE 1 (h:=⟨(by congr 1;unfold c8;rw [Bool.eq_iff_iff];simp only [decide_eq_true_eq,Bool.false_eq_true,false_iff,true_iff];first|(simp_all;done)|(simp_all;omega)),H1.ag⟩))
 exact cG 24 [2] (h:=bE 1 (h:=⟨(by congr 1;unfold c8;rw [Bool.eq_iff_iff];simp only [decide_eq_true_eq,Bool.false_eq_true,false_iff,true_iff];first|(simp_all;done)|(simp_all;omega)),H1.ag⟩))
 refine ae 12 (h:=aH (H1.b 0) (k:=aL 4 (fun rU=>?_) fun rU=>?_))
 refine ae 3 (h:=aH (H1.b 0) (k:=bZ 2 20 (fun Yr=>?_) fun Yr=>?_))
 exact ae 1 (h:=aH (H1.b 0) (k:=bE 6 (h:=⟨(by congr 1;unfold c8;rw [Bool.eq_iff_iff];simp only [decide_eq_true_eq,Bool.false_eq_true,false_iff,true_iff];first|(simp_all;done)|(simp_all;omega)),H1.ag⟩)))
 exact bE 8 (h:=⟨(by congr 1;unfold c8;rw [Bool.eq_iff_iff];simp only [decide_eq_true_eq,Bool.false_eq_true,false_iff,true_iff];first|(simp_all;done)|(simp_all;omega)),H1.ag⟩)
 refine ae 6 (h:=aH (H1.b 0) (k:=bZ 2 28 (fun QR=>?_) fun QR=>?_))
 refine ae 1 (h:=aH (H1.b 0) (k:=bZ 3 33 (fun IK=>?_) fun IK=>?_))
 refine ae 1 (h:=aH (H1.b 0) (k:=bZ 2 37 (fun FN=>?_) fun FN=>?_))
 exact cG 15 [2] (h:=bE 1 (h:=⟨(by congr 1;unfold c8;rw [Bool.eq_iff_iff];simp only [decide_eq_true_eq,Bool.false_eq_true,false_iff,true_iff];first|(simp_all;done)|(simp_all;omega)),H1.ag⟩))
 refine ae 1 (h:=aH (H1.b 0) (k:=ae 1 (h:=aH (H1.b 0) (k:=bZ 2 43 (fun yF=>?_) fun yF=>?_))))
 exact ae 1 (h:=aH (H1.b 0) (k:=cG 7 [2] (h:=bE 1 (h:=⟨(by congr 1;unfold c8;rw [Bool.eq_iff_iff];simp only [decide_eq_true_eq,Bool.false_eq_true,false_iff,true_iff];first|(simp_all;done)|(simp_all;omega)),H1.ag⟩))))
 exact cG 9 [2] (h:=bE 1 (h:=⟨(by congr 1;unfold c8;rw [Bool.eq_iff_iff];simp only [decide_eq_true_eq,Bool.false_eq_true,false_iff,true_iff];first|(simp_all;done)|(simp_all;omega)),H1.ag⟩))
 exact cG 19 [2] (h:=bE 1 (h:=⟨(by congr 1;unfold c8;rw [Bool.eq_iff_iff];simp only [decide_eq_true_eq,Bool.false_eq_true,false_iff,true_iff];first|(simp_all;done)|(simp_all;omega)),H1.ag⟩))
 exact cG 24 [2] (h:=bE 1 (h:=⟨(by congr 1;unfold c8;rw [Bool.eq_iff_iff];simp only [decide_eq_true_eq,Bool.false_eq_true,false_iff,true_iff];first|(simp_all;done)|(simp_all;omega)),H1.ag⟩))
theorem q6 (la:aO) (l:List Nd) (lc:Nat) (w:World) (rl:cd aJ w la l lc):
 Calls Tryz.prog 35 #[aG la l lc] w (bj fun v w'=>v= .bool (cO l)∧aE w [] w' []):=by
 have dD:=rl.le
 refine cL Tryz.func35 (h:=fun H0=>aL 13 (fun C7=>?_) fun C7=>?_)
 refine bE 6 (h:=?_)
 have e:cO l=false:=by unfold cO;rw [decide_eq_false oz];rfl
 exact ⟨(by rw [e]),H0.ag⟩
 refine cY 16 [12,3,11,10,2] (fun B R L m e v=>∃k op,e=(12,bJ k)::(3,ak op)::B∧aA w L v (R)∧(k≤l.length)∧(0≤op∧op≤k)∧(og (l.drop k) op=og l 0)∧m=l.length-k) (i:=⟨0,0,rfl,H0,om,oz,rfl,rfl⟩) (h:=?_)
 rintro m1 Γ1 w1 ⟨k,op,rfl,H1,hk,ho,hc,rfl⟩
 refine aL 6 (fun RL=>?_) fun RL=>?_
 refine ae 6 (h:=fI k (rl.at H1) (k:=ae 0 (h:=zt (rl.at H1) (k:=ae 0 (h:=da H1 (k:=fun w2 H2=>aU 0 (h:=bC H2 0 (k:=fun w3 H3=>ae 5 (h:=aH (H3.b 0) (k:=ae 0 (h:=aM (c:=tz _ w3) (k:=?_))))))))))))
 rintro _ w4 ⟨rfl,u3⟩
 have H4:=H3.call u3
 have har:=pK (l.getD k cb).kind
 refine bZ 9 21 (fun g42=>?_) fun g42=>?_
 refine bE 18 (h:=?_)
 have e:cO l=false:=by unfold cO;rw [←hc,qq oz,if_pos (by first|exact .inl g42|exact .inr (.inl QO)|exact .inr (.inr (by simpa using SQ)))];simp
 exact ⟨(by rw [e]),H4.ag⟩
 refine bZ 5 26 (fun QO=>?_) fun QO=>?_
 refine bE 13 (h:=?_)
 have e:cO l=false:=by unfold cO;rw [←hc,qq oz,if_pos (by first|exact .inl g42|exact .inr (.inl QO)|exact .inr (.inr (by simpa using SQ)))];simp
 exact ⟨(by rw [e]),H4.ag⟩
 refine ae 0 (h:=b8 (H4.b 0) (k:=ae 0 (h:=aM (c:=IU (l.getD k cb) w4) (k:=?_))))
 rintro _ w5 ⟨rfl,u4⟩
 have H5:=H4.call u4
 refine cS 4 (fun SQ=>?_) fun SQ=>?_
 refine bE 6 (h:=?_)
 have e:cO l=false:=by unfold cO;rw [←hc,qq oz,if_pos (by first|exact .inl g42|exact .inr (.inl QO)|exact .inr (.inr (by simpa using SQ)))];simp
 exact ⟨(by rw [e]),H5.ag⟩
 exact ae 5 (h:=jK (k:=ae 0 (h:=aX (k:=ae 5 (h:=aX (k:=b6 2 (h:=by exact ⟨k+1,op+(1-(cj ((l.getD k cb).kind))),rfl,(H5.pm [] rfl rfl),om,oz,(by rw [qq oz,if_neg (by first|exact fun h9=>h9.elim g42 (fun h8=>h8.elim QO (by simpa using SQ)))] at hc;exact hc),rfl⟩)))))))
 refine bE 10 (h:=?_)
 have e:cO l=decide (op=1):=by rw [List.drop_of_length_le oz,og] at hc;unfold cO;rw [←hc,decide_eq_true oz];simp
 exact ⟨(by rw [e]),H1.ag⟩
theorem xm (la:aO) (l:List Nd) (lc:Nat) (iI:Int) (i:Nat) (T:Tr) (w:World) (rl:cd aJ w la l lc) (lO:iI=((i:Nat):Int)) (hT:Sub l i T):
 Calls Tryz.prog 147 #[aG la l lc,ak iI] w (bj fun v w'=>v=ak ((i:Int)+1-T.flat.length)∧aE w [] w' []):=by
 subst lO
 have hi:=hT.2.1
 have hTl:=hT.le
 have dD:=rl.le
 refine cL Tryz.func147 (h:=fun H0=>bZ 11 9 (fun g52=>?_) fun g52=>?_)
 exfalso;omega
 refine aL 7 (fun Li=>?_) fun Li=>?_
 exfalso;omega
 refine cY 9 [5,1,4,0] (fun B R L m e v=>∃jI wt,e=(5,ak wt)::(1,ak jI)::B∧aA w L v (R)∧(0≤jI)∧(WO l i T jI.toNat wt)∧m=(jI+1).toNat) (i:=⟨((i:Nat):Int),1,rfl,H0,oz,(by exact WO.start hT),rfl⟩) (h:=?_)
 rintro m1 Γ1 w1 ⟨jI,wt,rfl,H1,hj0,hF,rfl⟩
 have hj:=hF.1
 have hw:=hF.2.2.1
 have jn:=WO.step hT hF
 have hw1:=hF.2.1
 have har:=pK (l.getD jI.toNat cb).kind
 have hw2:wt+(cj (l.getD jI.toNat cb).kind-1)≤(i:Int)+1:=jn.2.elim (fun h9=>by omega) (fun h9=>h9.2.2.2.2.1)
 refine aL 7 (fun c55=>?_) fun c55=>?_
 refine ae 8 (h:=fI jI.toNat (rl.at H1) (cN:=oz) (k:=ae 0 (h:=iL (rl.at H1) (k:=ae 0 (h:=nU (rl.at H1) (k:=ae 0 (h:=aM (c:=tz _ w1) (k:=?_))))))))
 rintro _ w2 ⟨rfl,u1⟩
 have H2:=H1.call u1
 refine aL 10 (fun U9=>?_) fun U9=>?_
 exfalso;omega
 refine ae 6 (h:=jK (k:=ae 0 (h:=aX (k:=aL 9 (fun Lh=>?_) fun Lh=>?_))))
 exact bE 7 (h:=⟨(by congr 1;have h9:=(jn.2.resolve_right (fun h9=>h9.1 Lh)).2;omega),H2.ag⟩)
 exact ae 5 (h:=jK (k:=b6 2 (h:=by exact ⟨jI-1,wt+((cj ((l.getD jI.toNat cb).kind))-1),rfl,H2,(by have h9:=(jn.2.resolve_left (fun h9=>Lh h9.1)).2.1;omega),(by rw [show (jI-1).toNat=jI.toNat-1 by omega];exact (jn.2.resolve_left (fun h9=>Lh h9.1)).2.2),rfl⟩)))
 exfalso;omega
theorem AI (la:aO) (l:List Nd) (lc:Nat) (iI:Int) (i:Nat) (T:Tr) (w:World) (rl:bH aJ w (.slice la l.length lc) l) (lO:iI=((i:Nat):Int)) (hT:Sub l i T):
 Calls Tryz.prog 107 #[.slice la l.length lc,ak iI] w (bj fun v w'=>∃a2,∃c2:Nat,v= .slice a2 ((aY T i).length) c2∧aE w [] w' [aj (aw .i64) (.slice a2 ((aY T i).length) c2) 3 (aY T i)]):=by
 subst lO
 have hi:=hT.2.1
 have hTl:=hT.le
 have M5:=eu hT.1
 have cq:=hT.root.1
 have dD:=rl.le
 refine cL Tryz.func107 (h:=fun H0=>ae 10 (h:=aM (c:=xm la l lc _ i T w (rl.at H0) oz hT) (k:=?_)))
 rintro _ w1 ⟨rfl,u1⟩
 have H1:=H0.call u1
 refine aL 3 (fun Ji=>?_) fun Ji=>?_
 exfalso;omega
 refine ae 10 (h:=jK (k:=ae 8 (h:=fI i (rl.at H1) (k:=ae 0 (h:=iL (rl.at H1) (k:=ae 0 (h:=nU (rl.at H1) (k:=ae 0 (h:=aM (c:=tz _ w1) (k:=?_))))))))))
 rintro _ w2 ⟨rfl,u2⟩
 have H2:=H1.call u2
 have H3:=H2.nr (aw .i64) 3
 refine cY 4 [7,6,5,4,0] (fun B R L m e v=>∃o:List Int,∃oa oc,∃at_ n,e=(7,ak n)::(6,ak at_)::(5,.slice oa o.length oc)::B∧aA w L v ([aj (aw .i64) (.slice oa o.length oc) 3 o]::R)∧(NI T i o at_ n)∧(0≤n)∧m=n.toNat) (i:=⟨([]:List Int),none,0,((i:Nat):Int)-1,cj ((l.getD i cb).kind),rfl,H3,(by rw [cq,M5];exact NI.start T i),(by rw [cq,M5];omega),rfl⟩) (h:=?_)
 rintro m1 Γ1 w3 ⟨o,oa,oc,at_,n,rfl,H4,hK,hn,rfl⟩
 have GR:=hK.len
 refine aL 7 (fun c74=>?_) fun c74=>?_
 obtain ⟨ha0,hai,S,uy,QM⟩:=NI.step hT hK oz
 have hSl:=uy.le
 have Yh:((at_.toNat:Nat):Int)=at_:=by omega
 refine ae 8 (h:=db (aw .i64) [at_] H4 (k:=fun w4 H5=>ae 0 (h:=fT H5 0 (H5.rt 1) (hb:=dk) (gk:=dk) (k:=fun a1 c1 w5 Vu=>?_))))
 have H6:=(Vu.drop 1).no
 refine ae 6 (h:=aM (c:=xm la l lc _ at_.toNat S w5 (rl.at H6) oz uy) (k:=?_))
 rintro _ w6 ⟨rfl,u5⟩
 have H7:=H6.call u5
 exact ae 0 (h:=jK (k:=ae 6 (h:=jK (k:=b6 2 (h:=by exact ⟨o++[at_],a1,c1,((at_.toNat:Int)+1-S.flat.length)-1,n-1,rfl,(H7.re rfl),(by rw [Yh];exact QM),oz,rfl⟩)))))
 refine ae 5 (h:=aM (c:=vj oa o oc o.length w3 (H4.dH 0) rfl oz) (k:=?_))
 rintro _ w7 ⟨rfl,u6⟩
 have H8:=H4.un 0 u6
 refine bE 9 (h:=?_)
 have e:o.reverse=aY T i:=hK.fin oz
 rw [e] at H8
 exact ⟨oa,oc,(by rw [←e,List.length_reverse]),(by have hh:=H8.iz 0;rw [show o.length=(aY T i).length by rw [←e,List.length_reverse]] at hh;exact hh)⟩
theorem vi (la:aO) (l:List Nd) (lc:Nat) (w:World) (rl:cd aJ w la l lc) (hl:l.length≤100000):
 Calls Tryz.prog 43 #[aG la l lc] w (bj fun v w'=>∃a2 c2,∃fs:List Int,v=aG a2 fs c2∧aE w [] w' [cg (aw .i64) 3 a2 fs c2]∧(ZY l fs)):=by
 have dD:=rl.le
 refine cL Tryz.func43 (h:=fun H0=>?_)
 have H1:=H0.nr (aw .i64) 3
 refine cY 17 [4,3,2,0] (fun B R L m e v=>∃k,∃o:List Int,∃oa oc,e=(4,bJ k)::(3,aG oa o oc)::B∧aA w L v ([cg (aw .i64) 3 oa o oc]::R)∧(k≤l.length)∧(Vx l k o)∧m=l.length-k) (i:=⟨0,([]:List Int),none,0,rfl,H1,om,(by exact ⟨rfl,fun i hi=>by omega⟩),rfl⟩) (h:=?_)
 rintro m1 Γ1 w1 ⟨k,o,oa,oc,rfl,H2,hk,ho,rfl⟩
 have GR:=ho.1
 have har:=pK (l.getD k cb).kind
 refine aL 9 (fun lu=>?_) fun lu=>?_
 refine ae 15 (h:=fI k (rl.at H2) (k:=ae 0 (h:=iL (rl.at H2) (k:=ae 0 (h:=nU (rl.at H2) (k:=ae 0 (h:=aM (c:=pZ _ w1) (k:=?_))))))))
 rintro _ w2 ⟨rfl,u1⟩
 have H3:=H2.call u1
 refine cY 4 [6,5,4,3,2,0] (fun B R L m e v=>∃fr n,e=(6,ak n)::(5,ak fr)::B∧aA w L v (R)∧(DA l k n fr)∧(-1≤n∧n≤2∧ -1≤fr∧fr≤(k:Int))∧(n= -1→cj (l.getD k cb).kind<0)∧m=(n+1).toNat) (i:=⟨((k:Nat):Int),cj ((l.getD k cb).kind),rfl,H3,(by exact DA.start l k),oz,oz,rfl⟩) (h:=?_)
 rintro m2 Γ2 w3 ⟨fr,n,rfl,H4,hF,hn,hm,rfl⟩
 refine bZ 6 22 (fun g20=>?_) fun g20=>?_
 refine aL 5 (fun lU=>?_) fun lU=>?_
 refine aL 10 (fun C9=>?_) fun C9=>?_
 exact ae 7 (h:=jK (k:=b6 2 (h:=by exact ⟨-1,n-1,rfl,H4,(by first|exact (C9▸hF:DA l k n 0).zero oz oz|exact hF.step oz ho oz oz),oz,oz,rfl⟩)))
 have hfo:=ho.k8 (i:=(fr-1).toNat) oz
 exact ae 3 (h:=jK (k:=ae 0 (h:=bU ((fr-1).toNat) (H4.rt 0) (cN:=oz) (k:=ae 0 (h:=cn (H4.rt 0) (k:=ae 6 (h:=jK (k:=b6 2 (h:=by exact ⟨o.getD ((fr-1).toNat) 0,n-1,rfl,H4,(by first|exact (C9▸hF:DA l k n 0).zero oz oz|exact hF.step oz ho oz oz),oz,oz,rfl⟩)))))))))
 refine mK 2 [24,23,4,3,2,0] 0 H4 (fun B R L e v=>∃f2,e=(5,ak f2)::B∧aA w L v (R)∧((∃T,Sub l k T∧f2=(k:Int)+1-T.flat.length)∨((¬ ∃T,Sub l k T)∧f2= -1))) ?_ ?_
 refine ae 4 (h:=fI k (rl.at H4) (k:=ae 0 (h:=iL (rl.at H4) (k:=ae 0 (h:=nU (rl.at H4) (k:=ae 0 (h:=aM (c:=pZ _ w3) (k:=?_))))))))
 rintro _ w4 ⟨rfl,u2⟩
 have H5:=H4.call u2
 refine aL 3 (fun C8=>?_) fun C8=>?_
 exact cy 3 (h:=by exact ⟨-1,rfl,H5,(by first|exact .inr ⟨DA.bad C8,rfl⟩|exact hF.fin oz (by first|exact .inl oz|exact .inr oz) oz oz)⟩)
 exact cy 1 (h:=by exact ⟨fr,rfl,H5,(by first|exact .inr ⟨DA.bad C8,rfl⟩|exact hF.fin oz (by first|exact .inl oz|exact .inr oz) oz oz)⟩)
 rintro Γ3 w5 ⟨f2,rfl,H6,hp⟩
 refine ae 3 (h:=db (aw .i64) [f2] H6 (k:=fun w6 H7=>ae 0 (h:=fT H7 0 (H7.rt 1) (hb:=dk) (gk:=dk) (k:=fun a1 c1 w7 Vs=>?_))))
 have H8:=(Vs.drop 1).no
 exact ae 6 (h:=aX (k:=b6 2 (h:=by exact ⟨k+1,o++[f2],a1,c1,rfl,(H8.re rfl),om,(by exact ho.push hp),rfl⟩)))
 refine mK 8 [24,23,4,3,2,0] 0 H4 (fun B R L e v=>∃f2,e=(5,ak f2)::B∧aA w L v (R)∧((∃T,Sub l k T∧f2=(k:Int)+1-T.flat.length)∨((¬ ∃T,Sub l k T)∧f2= -1))) ?_ ?_
 refine ae 4 (h:=fI k (rl.at H4) (k:=ae 0 (h:=iL (rl.at H4) (k:=ae 0 (h:=nU (rl.at H4) (k:=ae 0 (h:=aM (c:=pZ _ w3) (k:=?_))))))))
 rintro _ w8 ⟨rfl,u5⟩
 have H9:=H4.call u5
 refine aL 3 (fun C8=>?_) fun C8=>?_
 exact cy 3 (h:=by exact ⟨-1,rfl,H9,(by first|exact .inr ⟨DA.bad C8,rfl⟩|exact hF.fin oz (by first|exact .inl oz|exact .inr oz) oz oz)⟩)
 exact cy 1 (h:=by exact ⟨fr,rfl,H9,(by first|exact .inr ⟨DA.bad C8,rfl⟩|exact hF.fin oz (by first|exact .inl oz|exact .inr oz) oz oz)⟩)
 rintro Γ4 w9 ⟨adE,rfl,bO,hp⟩
 refine ae 3 (h:=db (aw .i64) [adE] bO (k:=fun gK bR=>ae 0 (h:=fT bR 0 (bR.rt 1) (hb:=dk) (gk:=dk) (k:=fun a2 c2 iu Su=>?_))))
 have cm:=(Su.drop 1).no
 exact ae 6 (h:=aX (k:=b6 2 (h:=by exact ⟨k+1,o++[adE],a2,c2,rfl,(cm.re rfl),om,(by exact ho.push hp),rfl⟩)))
 exact bE 9 (h:=⟨oa,oc,o,rfl,H2.iz 0,(ho.done oz)⟩)
theorem xI (la:aO) (l:List Nd) (lc:Nat) (w:World) (rl:cd aJ w la l lc):
 Calls Tryz.prog 19 #[aG la l lc] w (bj fun v w'=>v= .bool (cO l)∧aE w [] w' []):=by
 have dD:=rl.le
 refine cL Tryz.func19 (h:=fun H0=>bZ 12 9 (fun g37=>?_) fun g37=>?_)
 refine bE 13 (h:=?_)
 have e:cO l=false:=xH oz
 exact ⟨(by rw [e]),H0.ag⟩
 refine aL 6 (fun Zi=>?_) fun Zi=>?_
 refine bE 6 (h:=?_)
 have e:cO l=false:=xH oz
 exact ⟨(by rw [e]),H0.ag⟩
 refine ae 5 (h:=aM (c:=vi la l lc w (rl.at H0) oz) (k:=?_))
 rintro _ w1 ⟨bN,cv,UB,rfl,u1,CJ⟩
 have H1:=H0.ns u1
 refine cY 10 [4,3,2,0] (fun B R L m e v=>∃k,e=(4,bJ k)::B∧aA w L v (R)∧(k≤l.length)∧(∀i,i<k→0≤UB.getD i 0∧c8 (l.getD i cb)=true)∧m=l.length-k) (i:=⟨0,rfl,H1,om,(by intro i hi;omega),rfl⟩) (h:=?_)
 rintro m1 Γ1 w2 ⟨k,rfl,H2,hk,ho,rfl⟩
 have hbq:=PK (l.getD k cb)
 refine aL 9 (fun SR=>?_) fun SR=>?_
 refine ae 8 (h:=fI k (rl.at H2) (k:=ae 0 (h:=zt (rl.at H2) (k:=ae 0 (h:=da H2 (k:=fun w3 H3=>aU 0 (h:=bC H3 1 (k:=fun w4 H4=>mK 3 [5,4,3,2,0] 0 H4 (fun B R L e v=>∃q1:Bool,e=(41,.bool q1)::B∧aA w L v (R)∧(q1=decide (UB.getD k 0<0∨Gu (l.getD k cb)))) ?_ ?_))))))))
 have zA:=CJ.1
 refine ae 3 (h:=bU k (H4.rt 0) (k:=ae 0 (h:=cn (H4.rt 0) (k:=bZ 2 31 (fun g43=>?_) fun g43=>?_))))
 exact cy 11 (h:=by exact ⟨true,rfl,H4,(by rw [Bool.eq_iff_iff];simp only [decide_eq_true_eq,true_iff,false_iff,Bool.false_eq_true];unfold Gu;first|omega|(simp_all;done)|(simp_all;omega))⟩)
 refine ae 1 (h:=aH (H4.b 1) (k:=bZ 2 35 (fun ahG=>?_) fun ahG=>?_))
 refine ae 1 (h:=b8 (H4.b 1) (k:=ae 0 (h:=ck (us:=[av Bs.zero.w0,av Bs.zero.w1,av Bs.zero.w2,av Bs.zero.w3]) (k:=?_))))
 exact aR 0 rfl (C2 ((l.getD k cb).set) Bs.zero rfl rfl Tryz.underlying87 Tryz.underlying85 km iX (cy 3 (h:=by exact ⟨decide (((l.getD k cb).set)≠Bs.zero),rfl,H4,(by rw [Bool.eq_iff_iff];simp only [decide_eq_true_eq,true_iff,false_iff,Bool.false_eq_true];unfold Gu;first|omega|(simp_all;done)|(simp_all;omega))⟩)))
 exact cy 7 (h:=by exact ⟨false,rfl,H4,(by rw [Bool.eq_iff_iff];simp only [decide_eq_true_eq,true_iff,false_iff,Bool.false_eq_true];unfold Gu;first|omega|(simp_all;done)|(simp_all;omega))⟩)
 rintro Γ2 w5 ⟨q1,rfl,H5,NU⟩
 refine cS 0 (fun SP=>?_) fun SP=>?_
 refine bE 6 (h:=?_)
 have e:cO l=false:=tT CJ (k:=k) oz (by have h9:=NU;rw [SP] at h9;have h8:=of_decide_eq_true h9.symm;exact h8.imp id (fun h7 h6=>(hbq.1 h6).1 h7))
 exact ⟨(by rw [e]),H5.ag⟩
 refine mK 3 [5,4,3,2,0] 0 H5 (fun B R L e v=>∃q2:Bool,e=(54,.bool q2)::B∧aA w L v (R)∧(q2=decide (Gt (l.getD k cb)))) ?_ ?_
 refine ae 2 (h:=aH (H5.b 1) (k:=bZ 2 45 (fun g46=>?_) fun g46=>?_))
 refine ae 1 (h:=aH (H5.b 1) (k:=bZ 2 49 (fun ahF=>?_) fun ahF=>?_))
 exact cy 6 (h:=by exact ⟨true,rfl,H5,(by rw [Bool.eq_iff_iff];simp only [decide_eq_true_eq,true_iff,false_iff,Bool.false_eq_true];unfold Gt;first|omega|(simp_all;done)|(simp_all;omega))⟩)
 exact ae 1 (h:=aH (H5.b 1) (k:=cy 4 (h:=by exact ⟨decide (((l.getD k cb).hi)≠(0:Int)),rfl,H5,(by rw [Bool.eq_iff_iff];simp only [decide_eq_true_eq,true_iff,false_iff,Bool.false_eq_true];unfold Gt;first|omega|(simp_all;done)|(simp_all;omega))⟩)))
 exact cy 10 (h:=by exact ⟨false,rfl,H5,(by rw [Bool.eq_iff_iff];simp only [decide_eq_true_eq,true_iff,false_iff,Bool.false_eq_true];unfold Gt;first|omega|(simp_all;done)|(simp_all;omega))⟩)
 rintro Γ3 w6 ⟨q2,rfl,H6,zx⟩
 refine cS 0 (fun zD=>?_) fun zD=>?_
 refine bE 6 (h:=?_)
 have e:cO l=false:=tT CJ (k:=k) oz (by have h9:=zx;rw [zD] at h9;exact .inr (fun h6=>(hbq.1 h6).2.1 (of_decide_eq_true h9.symm)))
 exact ⟨(by rw [e]),H6.ag⟩
 refine mK 2 [4,3,2,0] 0 H6 (fun B R L e v=>∃q3:Bool,e=(84,.bool q3)::B∧aA w L v (R)∧(q3=decide (zb (l.getD k cb)))) ?_ ?_
 refine ae 2 (h:=aH (H6.b 1) (k:=bZ 2 58 (fun g49=>?_) fun g49=>?_))
 refine ae 1 (h:=aH (H6.b 1) (k:=bZ 2 62 (fun ahE=>?_) fun ahE=>?_))
 exact cy 23 (h:=by exact ⟨true,rfl,H6,(by rw [Bool.eq_iff_iff];simp only [decide_eq_true_eq,true_iff,false_iff,Bool.false_eq_true];unfold zb;first|omega|(simp_all;done)|(simp_all;omega))⟩)
 refine ae 1 (h:=aH (H6.b 1) (k:=bZ 3 67 (fun ac6=>?_) fun ac6=>?_))
 exact cy 18 (h:=by exact ⟨true,rfl,H6,(by rw [Bool.eq_iff_iff];simp only [decide_eq_true_eq,true_iff,false_iff,Bool.false_eq_true];unfold zb;first|omega|(simp_all;done)|(simp_all;omega))⟩)
 refine ae 1 (h:=aH (H6.b 1) (k:=bZ 2 71 (fun Yp=>?_) fun Yp=>?_))
 refine ae 1 (h:=aH (H6.b 1) (k:=ae 1 (h:=aH (H6.b 1) (k:=bZ 2 77 (fun Ut=>?_) fun Ut=>?_))))
 exact cy 8 (h:=by exact ⟨true,rfl,H6,(by rw [Bool.eq_iff_iff];simp only [decide_eq_true_eq,true_iff,false_iff,Bool.false_eq_true];unfold zb;first|omega|(simp_all;done)|(simp_all;omega))⟩)
 exact ae 1 (h:=aH (H6.b 1) (k:=cy 6 (h:=by exact ⟨decide (((l.getD k cb).hi)>(32:Int)),rfl,H6,(by rw [Bool.eq_iff_iff];simp only [decide_eq_true_eq,true_iff,false_iff,Bool.false_eq_true];unfold zb;first|omega|(simp_all;done)|(simp_all;omega))⟩)))
 exact cy 14 (h:=by exact ⟨false,rfl,H6,(by rw [Bool.eq_iff_iff];simp only [decide_eq_true_eq,true_iff,false_iff,Bool.false_eq_true];unfold zb;first|omega|(simp_all;done)|(simp_all;omega))⟩)
 exact cy 27 (h:=by exact ⟨false,rfl,H6,(by rw [Bool.eq_iff_iff];simp only [decide_eq_true_eq,true_iff,false_iff,Bool.false_eq_true];unfold zb;first|omega|(simp_all;done)|(simp_all;omega))⟩)
 rintro Γ4 w7 ⟨q3,rfl,H7,MS⟩
 refine cS 0 (fun c49=>?_) fun c49=>?_
 refine bE 6 (h:=?_)
 have e:cO l=false:=tT CJ (k:=k) oz (by have h9:=MS;rw [c49] at h9;exact .inr (fun h6=>(hbq.1 h6).2.2 (of_decide_eq_true h9.symm)))
 exact ⟨(by rw [e]),H7.ag⟩
 exact ae 5 (h:=aX (k:=b6 2 (h:=by exact ⟨k+1,rfl,(H7.pm [0] rfl rfl),om,(by intro i hi;exact (Nat.lt_or_ge i k).elim (ho i) (fun h9=>by (obtain rfl:i=k:=by omega);simp only [NU,decide_eq_true_eq] at SP;simp only [zx,decide_eq_true_eq] at zD;simp only [MS,decide_eq_true_eq] at c49;exact ⟨by omega,hbq.2 ⟨fun h8=>SP (.inr h8),zD,c49⟩⟩)),rfl⟩)))
 have zA:=CJ.1
 refine ae 7 (h:=jK (k:=ae 0 (h:=bU (l.length-1) (H2.rt 0) (cN:=oz) (k:=ae 0 (h:=cn (H2.rt 0) (k:=bE 5 (h:=?_)))))))
 have e:=Hs CJ oz oz (fun i hi=>ho i oz)
 exact ⟨(by rw [e]),H2.ag⟩
end Go.Proofs.YtpbgmkhmdbchpaaGreatDoor
namespace Go.Sx
theorem dP {p:Prop} (h:p:=by first|omega|(simp only [List.length_set];omega)):p:=h
theorem b9 {p:Prop} (h:p:=by first|omega|(simp only [List.length_append,List.length_nil,List.length_cons,List.length_singleton];omega)):p:=h
end Go.Sx
namespace Go.Proofs.YtpbgmkhmdbchpaaGreatDoor
open Go Go.Sx
theorem EH (g:Nat) (p:PS) (oa:aO) (oc:Nat) (on:Nat) (ta:aO) (tc:Nat) (tn:Nat) (w:World) (hp:Hp w [bm g #[.slice oa on oc,.slice ta tn tc,.bool p.fH] 145,aj aJ (.slice oa on oc) 89 p.out,aj gR (.slice ta tn tc) 142 p.st]) (jn:0<p.st.length∧p.st.length≤1000000):
 Calls Tryz.prog 106 #[.pointer (some ⟨g,0,none⟩)] w (bj fun v w'=>v=bP (.slice ta tn tc) ((tn-1)*2)∧aE w [bm g #[.slice oa on oc,.slice ta tn tc,.bool p.fH] 145,aj aJ (.slice oa on oc) 89 p.out,aj gR (.slice ta tn tc) 142 p.st] w' [bm g #[.slice oa on oc,.slice ta tn tc,.bool p.fH] 145,aj aJ (.slice oa on oc) 89 p.out,aj gR (.slice ta tn tc) 142 p.st]):=by
 obtain rfl:on=p.out.length:=(cQ hp (List.mem_of_getElem? (i:=1) rfl)).len
 obtain rfl:tn=p.st.length:=(cQ hp (List.mem_of_getElem? (i:=2) rfl)).len
 exact uZ hp Tryz.func106 (h:=fun H0=>eI 6 H0 (h:=fun w1 H1=>cP 3 3 (H1.b 0) (D:=fun _ hC=>aH hC) (h:=cP 3 7 (H1.b 0) (D:=fun _ hC=>aH hC) (h:=gZ 1 9 (D:=fun _=>jK) (h:=bY 0 10 (H1.rt 2) (D:=fun _ hC=>fI (p.st.length-1) hC (cN:=oz)) (h:=bE 4 (h:=⟨rfl,(H1.se [0,1,2])⟩)))))))
theorem uf (g:Nat) (p:PS) (oa:aO) (oc:Nat) (on:Nat) (ta:aO) (tc:Nat) (tn:Nat) (w:World) (hp:Hp w [bm g #[.slice oa on oc,.slice ta tn tc,.bool p.fH] 145,aj aJ (.slice oa on oc) 89 p.out,aj gR (.slice ta tn tc) 142 p.st]) (jz:j4 p 1000000) (jn:0<p.st.length) (hb:p.out.length+8*p.st.length≤1000000):
 Calls Tryz.prog 105 #[.pointer (some ⟨g,0,none⟩)] w (bj fun v w'=>∃gD gC,∃gh:Nat,v= .tuple #[]∧aE w [bm g #[.slice oa on oc,.slice ta tn tc,.bool p.fH] 145,aj aJ (.slice oa on oc) 89 p.out,aj gR (.slice ta tn tc) 142 p.st] w' [bm g #[.slice gD gh gC,.slice ta tn tc,.bool ((aZ p).fH)] 145,aj aJ (.slice gD gh gC) 89 ((aZ p).out),aj gR (.slice ta tn tc) 142 ((aZ p).st)]):=by
 obtain rfl:on=p.out.length:=(cQ hp (List.mem_of_getElem? (i:=1) rfl)).len
 obtain rfl:tn=p.st.length:=(cQ hp (List.mem_of_getElem? (i:=2) rfl)).len
 have hr0:=jz.2 (p.st.length-1)
 have ng:=(j4.join jz).2 (p.st.length-1)
 refine uZ hp Tryz.func105 (h:=fun H0=>ae 6 (h:=aH (H0.b 0) (k:=cS 3 (fun wW=>?_) fun wW=>?_)))
 refine ryZ 1 (h:=?_)
 have e:aZ p=p:=yr (by simpa using wW)
 rw [e]
 exact ⟨oa,oc,p.out.length,rfl,(H0.se [0,1,2])⟩
 refine aU 7 (h:=jA H0 0 (k:=fun w1 H1=>?_))
 have H2:aA _ _ _ [[_,_,_]]:=aA.of (aE.j7 H1 (l:=[0,1,2]) rfl rfl) rfl
 refine ae 5 (h:=aM (c:=EH _ (⟨p.out,p.st,false⟩:PS) oa oc p.out.length ta tc p.st.length w1 (H2.dH 0) (by first|omega|(dsimp only;omega))) (k:=?_))
 rintro _ w2 ⟨rfl,u2⟩
 have H3:aA w [bm g #[aG oa p.out oc,aG ta p.st tc,.bool p.fH] 145,cg aJ 89 oa p.out oc,cg gR 142 ta p.st tc] w2 [[bm g #[aG oa p.out oc,aG ta p.st tc,.bool false] 145,cg aJ 89 oa p.out oc,cg gR 142 ta p.st tc]]:=H2.on 0 rfl u2
 refine ae 6 (h:=NN (Pa (H3.dH 0) 2) (hj:=dP) (k:=ae 0 (h:=iL (Pa (H3.dH 0) 2) (hj:=dP) (k:=ae 0 (h:=nU (Pa (H3.dH 0) 2) (hj:=dP) (k:=ae 0 (h:=aX (k:=ae 0 (h:=NN (Pa (H3.dH 0) 2) (hj:=dP) (k:=ae 0 (h:=iL (Pa (H3.dH 0) 2) (hj:=dP) (k:=?_))))))))))))
 have H4:=H3.sn
 refine aU 0 (h:=DE (⟨((p.st.getD (p.st.length-1) fV).parts)+1,(p.st.getD (p.st.length-1) fV).aV⟩:Lv) H4 2 (hj:=dP) (k:=fun w3 H5=>ae 5 (h:=NN (H5.rt 2) (hj:=dP) (k:=ae 0 (h:=iL (H5.rt 2) (hj:=dP) (k:=ae 0 (h:=nU (H5.rt 2) (hj:=dP) (k:=aL 3 (fun Zi=>?_) fun Zi=>?_))))))))
 refine ae 5 (h:=aH (H5.b 0) (k:=ae 0 (h:=ck (us:=[ak 5,av Bs.zero.w0,av Bs.zero.w1,av Bs.zero.w2,av Bs.zero.w3,ak 0,ak 0]) (k:=ae 0 (h:=db aJ ([(⟨5,Bs.zero,0,0⟩:Nd)]:List Nd) H5 (k:=fun w4 H6=>?_))))))
 refine aR 0 rfl (dQ (T:=aJ) (xs:=p.out) (ys:=([(⟨5,Bs.zero,0,0⟩:Nd)]:List Nd)) rfl Tryz.underlying24 Ea rfl rfl rfl (H6.rt 1).len (H6.ow 1) (H6.rt 3) b9 b9 fun a1 c1 w5 u5=>?_)
 have H7:=((H6.un 1 u5).drop 3).no
 refine aU 2 (h:=jA H7 0 (k:=fun w6 H8=>GN 1 (h:=?_)))
 have e:=Bf (show p.fH=true by simpa using wW) jn
 rw [e,if_pos Zi]
 exact ⟨a1,c1,(p.out++([(⟨5,Bs.zero,0,0⟩:Nd)]:List Nd)).length,rfl,(H8.se [0,1,2])⟩
 refine GN 1 (h:=?_)
 have e:=Bf (show p.fH=true by simpa using wW) jn
 rw [e,if_neg Zi]
 exact ⟨oa,oc,p.out.length,rfl,(H5.se [0,1,2])⟩
theorem pf (g:Nat) (p:PS) (oa:aO) (oc:Nat) (on:Nat) (ta:aO) (tc:Nat) (tn:Nat) (w:World) (hp:Hp w [bm g #[.slice oa on oc,.slice ta tn tc,.bool p.fH] 145,aj aJ (.slice oa on oc) 89 p.out,aj gR (.slice ta tn tc) 142 p.st]) (jz:j4 p 1000000) (jn:0<p.st.length) (hb:p.out.length+8*p.st.length≤1000000):
 Calls Tryz.prog 81 #[.pointer (some ⟨g,0,none⟩)] w (bj fun v w'=>∃gD gC,∃gh:Nat,v= .tuple #[]∧aE w [bm g #[.slice oa on oc,.slice ta tn tc,.bool p.fH] 145,aj aJ (.slice oa on oc) 89 p.out,aj gR (.slice ta tn tc) 142 p.st] w' [bm g #[.slice gD gh gC,.slice ta tn tc,.bool ((bW p).fH)] 145,aj aJ (.slice gD gh gC) 89 ((bW p).out),aj gR (.slice ta tn tc) 142 ((bW p).st)]):=by
 obtain rfl:on=p.out.length:=(cQ hp (List.mem_of_getElem? (i:=1) rfl)).len
 obtain rfl:tn=p.st.length:=(cQ hp (List.mem_of_getElem? (i:=2) rfl)).len
 have hr0:=jz.2 (p.st.length-1)
 have ng:=(j4.join jz).2 (p.st.length-1)
 have MX:=dE p
 have hjo:=iO p
 refine uZ hp Tryz.func81 (h:=fun H0=>?_)
 have H1:aA _ _ _ [[_,_,_]]:=aA.of (aE.j7 H0 (l:=[0,1,2]) rfl rfl) rfl
 refine ae 3 (h:=aM (c:=uf _ p oa oc p.out.length ta tc p.st.length w (H1.dH 0) jz jn hb) (k:=?_))
 rintro _ w1 ⟨fz,fy,il,rfl,u1⟩
 have H2:=H1.un 0 u1
 refine ae 5 (h:=aM (c:=EH _ (aZ p) fz fy il ta tc p.st.length w1 (H2.dH 0) (by first|omega|(dsimp only;omega))) (k:=?_))
 rintro _ w2 ⟨rfl,u2⟩
 have H3:=H2.un 0 u2
 refine ae 7 (h:=NN (Pa (H3.dH 0) 2) (hj:=dP) (k:=ae 0 (h:=iL (Pa (H3.dH 0) 2) (hj:=dP) (k:=ae 0 (h:=nU (Pa (H3.dH 0) 2) (hj:=dP) (k:=aL 3 (fun zD=>?_) fun zD=>?_))))))
 refine ae 5 (h:=aH ((H3.dH 0).bm (List.mem_of_getElem? (i:=0) rfl)) (k:=ae 0 (h:=ck (us:=[ak 2,av Bs.zero.w0,av Bs.zero.w1,av Bs.zero.w2,av Bs.zero.w3,ak 0,ak 0]) (k:=ae 0 (h:=db aJ ([(⟨2,Bs.zero,0,0⟩:Nd)]:List Nd) H3 (k:=fun w3 H4=>?_))))))
 have H5:=H4.sn
 refine aR 0 rfl (dQ (T:=aJ) (xs:=((aZ p).out)) (ys:=([(⟨2,Bs.zero,0,0⟩:Nd)]:List Nd)) rfl Tryz.underlying24 Ea rfl rfl rfl (H5.rt 1).len (H5.ow 1) (H5.rt 3) b9 b9 fun a1 c1 w4 u4=>?_)
 have H6:=((H5.un 1 u4).drop 3).no
 refine aU 2 (h:=jA H6 0 (k:=fun w5 H7=>ae 5 (h:=NN (H7.rt 2) (hj:=dP) (k:=ae 0 (h:=iL (H7.rt 2) (hj:=dP) (k:=aU 0 (h:=DE (⟨0,(((aZ p).st).getD (p.st.length-1) fV).aV⟩:Lv) H7 2 (hj:=dP) (k:=fun w6 H8=>ae 5 (h:=NN (H8.rt 2) (hj:=dP) (k:=ae 0 (h:=iL (H8.rt 2) (hj:=dP) (k:=ae 0 (h:=nU (H8.rt 2) (hj:=dP) (k:=ae 0 (h:=aX (h1:=(by first|omega|(rw [gN oz];dsimp only;omega))) (h2:=(by first|omega|(rw [gN oz];dsimp only;omega))) (k:=ae 0 (h:=NN (H8.rt 2) (hj:=dP) (k:=ae 0 (h:=iL (H8.rt 2) (hj:=dP) (k:=aU 0 (h:=DE (⟨(((((aZ p).st).set (p.st.length-1) (⟨0,(((aZ p).st).getD (p.st.length-1) fV).aV⟩:Lv)).getD (p.st.length-1) fV).parts),((((((aZ p).st).set (p.st.length-1) (⟨0,(((aZ p).st).getD (p.st.length-1) fV).aV⟩:Lv)).getD (p.st.length-1) fV).aV)+1)⟩:Lv) H8 2 (hj:=dP) (k:=fun w7 H9=>cG 2 [2,0] (h:=ae 3 (h:=NN (H9.rt 2) (hj:=dP) (k:=ae 0 (h:=iL (H9.rt 2) (hj:=dP) (k:=ae 0 (h:=nU (H9.rt 2) (hj:=dP) (k:=aL 3 (fun Aj=>?_) fun Aj=>?_)))))))))))))))))))))))))))))
 refine ae 5 (h:=aH (H9.b 0) (k:=ae 0 (h:=ck (us:=[ak 6,av Bs.zero.w0,av Bs.zero.w1,av Bs.zero.w2,av Bs.zero.w3,ak 0,ak 0]) (k:=ae 0 (h:=db aJ ([(⟨6,Bs.zero,0,0⟩:Nd)]:List Nd) H9 (k:=fun w8 bO=>ae 0 (h:=fT bO 1 (bO.rt 4) (hb:=b9) (gk:=b9) (k:=fun a2 c2 w9 Sv=>?_))))))))
 have bR:=(Sv.drop 4).no
 refine aU 2 (h:=jA bR 0 (k:=fun gK cm=>GN 1 (h:=?_)))
 rw [oh jn]
 first|rw [if_pos zD]|rw [if_neg zD]
 first|rw [if_pos (show ((N1 (aZ p) (p.st.length-1)).getD (p.st.length-1) fV).aV>1 from Aj)]|rw [if_neg (show¬((N1 (aZ p) (p.st.length-1)).getD (p.st.length-1) fV).aV>1 from Aj)]
 exact ⟨a2,c2,((((aZ p).out)++([(⟨2,Bs.zero,0,0⟩:Nd)]:List Nd))++([(⟨6,Bs.zero,0,0⟩:Nd)]:List Nd)).length,rfl,(cm.se [0,1,2])⟩
 refine GN 1 (h:=?_)
 rw [oh jn]
 first|rw [if_pos zD]|rw [if_neg zD]
 first|rw [if_pos (show ((N1 (aZ p) (p.st.length-1)).getD (p.st.length-1) fV).aV>1 from Aj)]|rw [if_neg (show¬((N1 (aZ p) (p.st.length-1)).getD (p.st.length-1) fV).aV>1 from Aj)]
 exact ⟨a1,c1,(((aZ p).out)++([(⟨2,Bs.zero,0,0⟩:Nd)]:List Nd)).length,rfl,(H9.se [0,1,2])⟩
 refine ae 5 (h:=NN (Pa (H3.dH 0) 2) (hj:=dP) (k:=ae 0 (h:=iL (Pa (H3.dH 0) 2) (hj:=dP) (k:=?_))))
 have cW:=H3.sn
 refine aU 0 (h:=DE (⟨0,(((aZ p).st).getD (p.st.length-1) fV).aV⟩:Lv) cW 2 (hj:=dP) (k:=fun iu cH=>ae 5 (h:=NN (cH.rt 2) (hj:=dP) (k:=ae 0 (h:=iL (cH.rt 2) (hj:=dP) (k:=ae 0 (h:=nU (cH.rt 2) (hj:=dP) (k:=ae 0 (h:=aX (h1:=(by first|omega|(rw [gN oz];dsimp only;omega))) (h2:=(by first|omega|(rw [gN oz];dsimp only;omega))) (k:=ae 0 (h:=NN (cH.rt 2) (hj:=dP) (k:=ae 0 (h:=iL (cH.rt 2) (hj:=dP) (k:=aU 0 (h:=DE (⟨(((((aZ p).st).set (p.st.length-1) (⟨0,(((aZ p).st).getD (p.st.length-1) fV).aV⟩:Lv)).getD (p.st.length-1) fV).parts),((((((aZ p).st).set (p.st.length-1) (⟨0,(((aZ p).st).getD (p.st.length-1) fV).aV⟩:Lv)).getD (p.st.length-1) fV).aV)+1)⟩:Lv) cH 2 (hj:=dP) (k:=fun iW cI=>ae 5 (h:=NN (cI.rt 2) (hj:=dP) (k:=ae 0 (h:=iL (cI.rt 2) (hj:=dP) (k:=ae 0 (h:=nU (cI.rt 2) (hj:=dP) (k:=aL 3 (fun Aj=>?_) fun Aj=>?_))))))))))))))))))))))
 refine ae 5 (h:=aH (cI.b 0) (k:=ae 0 (h:=ck (us:=[ak 6,av Bs.zero.w0,av Bs.zero.w1,av Bs.zero.w2,av Bs.zero.w3,ak 0,ak 0]) (k:=ae 0 (h:=db aJ ([(⟨6,Bs.zero,0,0⟩:Nd)]:List Nd) cI (k:=fun iV cT=>?_))))))
 refine aR 0 rfl (dQ (T:=aJ) (xs:=((aZ p).out)) (ys:=([(⟨6,Bs.zero,0,0⟩:Nd)]:List Nd)) rfl Tryz.underlying24 Ea rfl rfl rfl (cT.rt 1).len (cT.ow 1) (cT.rt 3) b9 b9 fun a3 c3 lT S5=>?_)
 have dj:=((cT.un 1 S5).drop 3).no
 refine aU 2 (h:=jA dj 0 (k:=fun qx dY=>GN 1 (h:=?_)))
 rw [oh jn]
 first|rw [if_pos zD]|rw [if_neg zD]
 first|rw [if_pos (show ((N1 (aZ p) (p.st.length-1)).getD (p.st.length-1) fV).aV>1 from Aj)]|rw [if_neg (show¬((N1 (aZ p) (p.st.length-1)).getD (p.st.length-1) fV).aV>1 from Aj)]
 exact ⟨a3,c3,(((aZ p).out)++([(⟨6,Bs.zero,0,0⟩:Nd)]:List Nd)).length,rfl,(dY.se [0,1,2])⟩
 refine GN 1 (h:=?_)
 rw [oh jn]
 first|rw [if_pos zD]|rw [if_neg zD]
 first|rw [if_pos (show ((N1 (aZ p) (p.st.length-1)).getD (p.st.length-1) fV).aV>1 from Aj)]|rw [if_neg (show¬((N1 (aZ p) (p.st.length-1)).getD (p.st.length-1) fV).aV>1 from Aj)]
 exact ⟨fz,fy,il,rfl,(cI.se [0,1,2])⟩
theorem ue (g:Nat) (p:PS) (oa:aO) (oc:Nat) (on:Nat) (ta:aO) (tc:Nat) (tn:Nat) (n:Nd) (w:World) (hp:Hp w [bm g #[.slice oa on oc,.slice ta tn tc,.bool p.fH] 145,aj aJ (.slice oa on oc) 89 p.out,aj gR (.slice ta tn tc) 142 p.st]) (jz:j4 p 1000000) (jn:0<p.st.length) (hb:p.out.length+8*p.st.length≤1000000):
 Calls Tryz.prog 101 #[.pointer (some ⟨g,0,none⟩),.agg #[ak n.kind,av n.set.w0,av n.set.w1,av n.set.w2,av n.set.w3,ak n.lo,ak n.hi]] w (bj fun v w'=>∃gD gC,∃gh:Nat,v= .tuple #[]∧aE w [bm g #[.slice oa on oc,.slice ta tn tc,.bool p.fH] 145,aj aJ (.slice oa on oc) 89 p.out,aj gR (.slice ta tn tc) 142 p.st] w' [bm g #[.slice gD gh gC,.slice ta tn tc,.bool ((fA p n).fH)] 145,aj aJ (.slice gD gh gC) 89 ((fA p n).out),aj gR (.slice ta tn tc) 142 ((fA p n).st)]):=by
 obtain rfl:on=p.out.length:=(cQ hp (List.mem_of_getElem? (i:=1) rfl)).len
 obtain rfl:tn=p.st.length:=(cQ hp (List.mem_of_getElem? (i:=2) rfl)).len
 have hr0:=jz.2 (p.st.length-1)
 have ng:=(j4.join jz).2 (p.st.length-1)
 have MX:=dE p
 have hjo:=iO p
 refine uZ hp Tryz.func101 (h:=fun H0=>ae 2 (h:=gI H0 (k:=fun w1 H1=>?_)))
 have H2:aA _ _ _ [[_,_,_],[_]]:=aA.of (aE.j7 H1 (l:=[0,1,2,3]) rfl rfl) rfl
 refine ae 5 (h:=aM (c:=uf _ p oa oc p.out.length ta tc p.st.length w1 (H2.dH 0) jz jn hb) (k:=?_))
 rintro _ w2 ⟨fz,fy,il,rfl,u2⟩
 have H3:=H2.un 0 u2
 refine eI 3 H3 (h:=fun w3 H4=>cP 4 4 ((H4.dH 0).bm (List.mem_of_getElem? (i:=0) rfl)) (D:=fun _ hC=>aH hC) (h:=cP 0 5 (H4.b 1) (D:=fun _ hC=>b8 hC) (h:=c7 0 6 (D:=db aJ ([n]:List Nd) H4 (k:=fun w4 H5=>?_)))))
 refine ⟨⟨((H5.dH 0).bm (List.mem_of_getElem? (i:=0) rfl)),trivial,trivial,trivial,trivial,trivial⟩,?_⟩
 have H6:=H5.sn
 refine vQ 0 7 ⟨_,_,_,rfl,rfl,rfl,rfl,rfl,rfl⟩ (dQ (T:=aJ) (xs:=((aZ p).out)) (ys:=([n]:List Nd)) rfl Tryz.underlying24 Ea rfl rfl rfl (H6.rt 1).len (H6.ow 1) (H6.rt 4) b9 b9 fun a1 c1 w5 u4=>?_)
 have H7:=((H6.un 1 u4).drop 4).no
 refine ⟨⟨trivial,trivial⟩,?_⟩
 refine c7 2 10 (D:=jA H7 0 (k:=fun w6 H8=>?_))
 refine ⟨trivial,?_⟩
 exact aU 6 (h:=jA H8 0 (k:=fun w7 H9=>GN 1 (h:=⟨a1,c1,(((aZ p).out)++([n]:List Nd)).length,rfl,(H9.se [0,1,2])⟩)))
theorem Ml (g:Nat) (p:PS) (oa:aO) (oc:Nat) (on:Nat) (ta:aO) (tc:Nat) (tn:Nat) (w:World) (hp:Hp w [bm g #[.slice oa on oc,.slice ta tn tc,.bool p.fH] 145,aj aJ (.slice oa on oc) 89 p.out,aj gR (.slice ta tn tc) 142 p.st]) (jz:j4 p 1000000) (jn:0<p.st.length) (hb:p.out.length+8*p.st.length≤1000000):
 Calls Tryz.prog 103 #[.pointer (some ⟨g,0,none⟩)] w (bj fun v w'=>∃gD gC,∃gh:Nat,∃xp xo,∃VG:Nat,v=ak (x4 p)∧aE w [bm g #[.slice oa on oc,.slice ta tn tc,.bool p.fH] 145,aj aJ (.slice oa on oc) 89 p.out,aj gR (.slice ta tn tc) 142 p.st] w' [bm g #[.slice gD gh gC,.slice xp VG xo,.bool ((x3 p).fH)] 145,aj aJ (.slice gD gh gC) 89 ((x3 p).out),aj gR (.slice xp VG xo) 142 ((x3 p).st)]):=by
 obtain rfl:on=p.out.length:=(cQ hp (List.mem_of_getElem? (i:=1) rfl)).len
 obtain rfl:tn=p.st.length:=(cQ hp (List.mem_of_getElem? (i:=2) rfl)).len
 have hr0:=jz.2 (p.st.length-1)
 have ng:=(j4.join jz).2 (p.st.length-1)
 have MX:=dE p
 have hjo:=iO p
 refine uZ hp Tryz.func103 (h:=fun H0=>ae 11 (h:=aH (H0.b 0) (k:=aL 4 (fun Gm=>?_) fun Gm=>?_)))
 refine bE 6 (h:=?_)
 have h9:p.st.length>20:=by omega
 rw [show x4 p=4 from if_pos h9,show x3 p=p from if_pos h9]
 exact ⟨oa,oc,p.out.length,ta,tc,p.st.length,rfl,(H0.se [0,1,2])⟩
 have H1:aA _ _ _ [[_,_,_]]:=aA.of (aE.j7 H0 (l:=[0,1,2]) rfl rfl) rfl
 refine ae 5 (h:=aM (c:=uf _ p oa oc p.out.length ta tc p.st.length w (H1.dH 0) jz jn hb) (k:=?_))
 rintro _ w1 ⟨fz,fy,il,rfl,u1⟩
 have H2:=H1.un 0 u1
 refine ae 8 (h:=aH ((H2.dH 0).bm (List.mem_of_getElem? (i:=0) rfl)) (k:=ae 0 (h:=ck (k:=ae 0 (h:=db gR ([(⟨0,0⟩:Lv)]:List Lv) H2 (k:=fun w2 H3=>?_))))))
 have H4:=H3.sn
 refine aR 0 rfl (dQ (T:=gR) (xs:=((aZ p).st)) (ys:=([(⟨0,0⟩:Lv)]:List Lv)) rfl Tryz.underlying143 VI rfl rfl rfl (H4.rt 2).len (H4.ow 2) (H4.rt 3) b9 b9 fun a1 c1 w3 u3=>?_)
 have H5:=((H4.un 2 u3).drop 3).no
 refine aU 2 (h:=jA H5 0 (k:=fun w4 H6=>bE 8 (h:=?_)))
 have h9:¬p.st.length>20:=by omega
 rw [show x4 p=0 from if_neg h9,show x3 p=⟨(aZ p).out,(aZ p).st++[fV],(aZ p).fH⟩ from (if_neg h9).trans (PG p)]
 exact ⟨fz,fy,il,a1,c1,(((aZ p).st)++([(⟨0,0⟩:Lv)]:List Lv)).length,rfl,(H6.se [0,1,2])⟩
theorem HH (g:Nat) (p:PS) (oa:aO) (oc:Nat) (on:Nat) (ta:aO) (tc:Nat) (tn:Nat) (w:World) (hp:Hp w [bm g #[.slice oa on oc,.slice ta tn tc,.bool p.fH] 145,aj aJ (.slice oa on oc) 89 p.out,aj gR (.slice ta tn tc) 142 p.st]) (jz:j4 p 1000000) (jn:0<p.st.length) (hb:p.out.length+8*p.st.length≤1000000):
 Calls Tryz.prog 104 #[.pointer (some ⟨g,0,none⟩)] w (bj fun v w'=>∃gD gC,∃gh:Nat,∃xp xo,∃VG:Nat,v=ak (rI p)∧aE w [bm g #[.slice oa on oc,.slice ta tn tc,.bool p.fH] 145,aj aJ (.slice oa on oc) 89 p.out,aj gR (.slice ta tn tc) 142 p.st] w' [bm g #[.slice gD gh gC,.slice xp VG xo,.bool ((rH p).fH)] 145,aj aJ (.slice gD gh gC) 89 ((rH p).out),aj gR (.slice xp VG xo) 142 ((rH p).st)]):=by
 obtain rfl:on=p.out.length:=(cQ hp (List.mem_of_getElem? (i:=1) rfl)).len
 obtain rfl:tn=p.st.length:=(cQ hp (List.mem_of_getElem? (i:=2) rfl)).len
 have hr0:=jz.2 (p.st.length-1)
 have ng:=(j4.join jz).2 (p.st.length-1)
 have MX:=dE p
 have hjo:=iO p
 have Um:=iU p
 refine uZ hp Tryz.func104 (h:=fun H0=>ae 11 (h:=aH (H0.b 0) (k:=aL 4 (fun Gj=>?_) fun Gj=>?_)))
 refine bE 6 (h:=?_)
 have h9:p.st.length=1:=by omega
 rw [show rI p=3 from if_pos h9,show rH p=p from if_pos h9]
 exact ⟨oa,oc,p.out.length,ta,tc,p.st.length,rfl,(H0.se [0,1,2])⟩
 have H1:aA _ _ _ [[_,_,_]]:=aA.of (aE.j7 H0 (l:=[0,1,2]) rfl rfl) rfl
 refine ae 5 (h:=aM (c:=pf _ p oa oc p.out.length ta tc p.st.length w (H1.dH 0) jz jn hb) (k:=?_))
 rintro _ w1 ⟨fz,fy,il,rfl,u1⟩
 have H2:=H1.un 0 u1
 refine eI 3 H2 (h:=fun w2 H3=>cP 4 4 ((H3.dH 0).bm (List.mem_of_getElem? (i:=0) rfl)) (D:=fun _ hC=>aH hC) (h:=cP 3 8 ((H3.dH 0).bm (List.mem_of_getElem? (i:=0) rfl)) (D:=fun _ hC=>aH hC) (h:=gZ 1 10 (D:=fun _=>jK) (h:=?_))))
 have H4:=H3.sn
 refine vQ 0 11 ⟨_,_,_,rfl,rfl,rfl,rfl,rfl,rfl⟩ (OE (((p.st.length:Nat):Int)-1) (p.st.length-1) (T:=gR) (e:=142) (xs:=((bW p).st)) rfl Tryz.underlying143 VI rfl rfl (H4.ow 2) oz dP oz fun w3 u2=>?_)
 have H5:=H4.un 2 u2
 refine ⟨⟨trivial,trivial⟩,?_⟩
 refine c7 2 14 (D:=jA H5 0 (k:=fun w4 H6=>?_))
 refine ⟨trivial,?_⟩
 refine aU 7 (h:=jA H6 0 (k:=fun w5 H7=>bE 8 (h:=?_)))
 have h9:¬p.st.length=1:=by omega
 rw [show rI p=0 from if_neg h9,show rH p=jY p from if_neg h9]
 unfold jY
 rw [iU]
 exact ⟨fz,fy,il,ta,tc,(((bW p).st).take (p.st.length-1)).length,rfl,(H7.se [0,1,2])⟩
theorem EK (g:Nat) (p:PS) (oa:aO) (oc:Nat) (on:Nat) (ta:aO) (tc:Nat) (tn:Nat) (t:Tk) (w:World) (hp:Hp w [bm g #[.slice oa on oc,.slice ta tn tc,.bool p.fH] 145,aj aJ (.slice oa on oc) 89 p.out,aj gR (.slice ta tn tc) 142 p.st]) (jz:j4 p 1000000) (jn:0<p.st.length) (hb:p.out.length+8*p.st.length≤1000000):
 Calls Tryz.prog 102 #[.pointer (some ⟨g,0,none⟩),.agg #[ak t.kind,ak t.pos,av t.set.w0,av t.set.w1,av t.set.w2,av t.set.w3,ak t.lo,ak t.hi]] w (bj fun v w'=>∃gD gC,∃gh:Nat,v=ak (Ez p t)∧aE w [bm g #[.slice oa on oc,.slice ta tn tc,.bool p.fH] 145,aj aJ (.slice oa on oc) 89 p.out,aj gR (.slice ta tn tc) 142 p.st] w' [bm g #[.slice gD gh gC,.slice ta tn tc,.bool ((Ex p t).fH)] 145,aj aJ (.slice gD gh gC) 89 ((Ex p t).out),aj gR (.slice ta tn tc) 142 ((Ex p t).st)]):=by
 obtain rfl:on=p.out.length:=(cQ hp (List.mem_of_getElem? (i:=1) rfl)).len
 obtain rfl:tn=p.st.length:=(cQ hp (List.mem_of_getElem? (i:=2) rfl)).len
 have hr0:=jz.2 (p.st.length-1)
 have ng:=(j4.join jz).2 (p.st.length-1)
 have MX:=dE p
 have hjo:=iO p
 refine uZ hp Tryz.func102 (h:=fun H0=>ae 2 (h:=gI H0 (k:=fun w1 H1=>mK 5 [4,3,0] 0 H1 (fun B R L e v=>∃q:Bool,e=(5,.bool q)::B∧aA w L v (R)∧(q=decide (dw t))) ?_ ?_)))
 refine ae 2 (h:=aH (H1.b 3) (k:=bZ 2 9 (fun g80=>?_) fun g80=>?_))
 exact cy 23 (h:=by exact ⟨true,rfl,H1,(by rw [Bool.eq_iff_iff];simp only [decide_eq_true_eq,true_iff,false_iff,Bool.false_eq_true];unfold dw;omega)⟩)
 refine ae 1 (h:=aH (H1.b 3) (k:=bZ 3 14 (fun ahs=>?_) fun ahs=>?_))
 exact cy 18 (h:=by exact ⟨true,rfl,H1,(by rw [Bool.eq_iff_iff];simp only [decide_eq_true_eq,true_iff,false_iff,Bool.false_eq_true];unfold dw;omega)⟩)
 refine ae 1 (h:=aH (H1.b 3) (k:=bZ 2 18 (fun acY=>?_) fun acY=>?_))
 refine ae 1 (h:=aH (H1.b 3) (k:=ae 1 (h:=aH (H1.b 3) (k:=bZ 2 24 (fun Yl=>?_) fun Yl=>?_))))
 exact cy 8 (h:=by exact ⟨true,rfl,H1,(by rw [Bool.eq_iff_iff];simp only [decide_eq_true_eq,true_iff,false_iff,Bool.false_eq_true];unfold dw;omega)⟩)
 exact ae 1 (h:=aH (H1.b 3) (k:=cy 6 (h:=by exact ⟨decide (t.hi>(32:Int)),rfl,H1,(by rw [Bool.eq_iff_iff];simp only [decide_eq_true_eq,true_iff,false_iff,Bool.false_eq_true];unfold dw;omega)⟩)))
 exact cy 14 (h:=by exact ⟨false,rfl,H1,(by rw [Bool.eq_iff_iff];simp only [decide_eq_true_eq,true_iff,false_iff,Bool.false_eq_true];unfold dw;omega)⟩)
 rintro Γ1 w2 ⟨q,rfl,H2,hq⟩
 refine cS 0 (fun Ws=>?_) fun Ws=>?_
 refine bE 6 (h:=?_)
 have h9:dw t:=of_decide_eq_true (hq.symm.trans Ws)
 rw [show Ez p t=9 from if_pos h9,show Ex p t=p from if_pos h9]
 exact ⟨oa,oc,p.out.length,rfl,(H2.se [0,1,2])⟩
 refine ae 5 (h:=aH (H2.b 0) (k:=cS 4 (fun c82=>?_) fun c82=>?_))
 refine bE 6 (h:=?_)
 have h9:¬dw t:=fun h8=>Ws (hq.trans (decide_eq_true h8))
 have h7:¬p.fH=true:=by simpa using c82
 rw [show Ez p t=3 from (if_neg h9).trans (if_neg h7),show Ex p t=p from (if_neg h9).trans (if_neg h7)]
 exact ⟨oa,oc,p.out.length,rfl,(H2.se [0,1,2])⟩
 refine eI 4 H2 (h:=fun w3 H3=>cP 4 4 (H3.b 0) (D:=fun _ hC=>aH hC) (h:=cP 1 6 (H3.b 3) (D:=fun _ hC=>aH hC) (h:=cP 1 8 (H3.b 3) (D:=fun _ hC=>aH hC) (h:=gZ 0 9 (D:=fun _=>ck (us:=[ak 7,av Bs.zero.w0,av Bs.zero.w1,av Bs.zero.w2,av Bs.zero.w3,ak t.lo,ak t.hi])) (h:=c7 0 10 (D:=db aJ ([(⟨7,Bs.zero,t.lo,t.hi⟩:Nd)]:List Nd) H3 (k:=fun w4 H4=>?_)))))))
 refine ⟨⟨(H4.b 0),trivial,trivial,trivial,trivial,trivial⟩,?_⟩
 refine c7 0 11 (D:=fT H4 1 (H4.rt 4) (hb:=b9) (gk:=b9) (k:=fun a1 c1 w5 Vv=>?_))
 have H5:=(Vv.drop 4).no
 refine ⟨⟨trivial,trivial⟩,?_⟩
 refine c7 2 14 (D:=jA H5 0 (k:=fun w6 H6=>?_))
 refine ⟨trivial,?_⟩
 refine bE 8 (h:=?_)
 have h9:¬dw t:=fun h8=>Ws (hq.trans (decide_eq_true h8))
 have h7:p.fH=true:=by simpa using c82
 rw [show Ez p t=0 from (if_neg h9).trans (if_pos h7),show Ex p t=_ from (if_neg h9).trans (if_pos h7)]
 exact ⟨a1,c1,(p.out++([(⟨7,Bs.zero,t.lo,t.hi⟩:Nd)]:List Nd)).length,rfl,(H6.se [0,1,2])⟩
theorem HE (g:Nat) (p:PS) (oa:aO) (oc:Nat) (on:Nat) (ta:aO) (tc:Nat) (tn:Nat) (t:Tk) (w:World) (hp:Hp w [bm g #[.slice oa on oc,.slice ta tn tc,.bool p.fH] 145,aj aJ (.slice oa on oc) 89 p.out,aj gR (.slice ta tn tc) 142 p.st]) (jz:j4 p 1000000) (jn:0<p.st.length) (hb:p.out.length+8*p.st.length≤1000000):
 Calls Tryz.prog 80 #[.pointer (some ⟨g,0,none⟩),.agg #[ak t.kind,ak t.pos,av t.set.w0,av t.set.w1,av t.set.w2,av t.set.w3,ak t.lo,ak t.hi]] w (bj fun v w'=>∃gD gC,∃gh:Nat,∃xp xo,∃VG:Nat,v=ak (ei p t)∧aE w [bm g #[.slice oa on oc,.slice ta tn tc,.bool p.fH] 145,aj aJ (.slice oa on oc) 89 p.out,aj gR (.slice ta tn tc) 142 p.st] w' [bm g #[.slice gD gh gC,.slice xp VG xo,.bool ((gb p t).fH)] 145,aj aJ (.slice gD gh gC) 89 ((gb p t).out),aj gR (.slice xp VG xo) 142 ((gb p t).st)]):=by
 obtain rfl:on=p.out.length:=(cQ hp (List.mem_of_getElem? (i:=1) rfl)).len
 obtain rfl:tn=p.st.length:=(cQ hp (List.mem_of_getElem? (i:=2) rfl)).len
 have hr0:=jz.2 (p.st.length-1)
 have ng:=(j4.join jz).2 (p.st.length-1)
 have MX:=dE p
 have hjo:=iO p
 refine uZ hp Tryz.func80 (h:=fun H0=>ae 2 (h:=gI H0 (k:=fun w1 H1=>ae 7 (h:=aH (H1.b 3) (k:=aL 9 (fun Ai=>?_) fun Ai=>?_)))))
 refine ae 3 (h:=b8 (H1.b 3) (k:=ae 0 (h:=ck (k:=?_))))
 have H2:aA _ _ _ [[_,_,_],[_]]:=aA.of (aE.j7 H1 (l:=[0,1,2,3]) rfl rfl) rfl
 refine ae 0 (h:=aM (c:=ue _ p oa oc p.out.length ta tc p.st.length (⟨1,t.set,0,0⟩:Nd) w1 (H2.dH 0) jz jn hb) (k:=?_))
 rintro _ w2 ⟨fz,fy,il,rfl,u2⟩
 have H3:=H2.un 0 u2
 refine bE 9 (h:=?_)
 first|rw [(qH p Ai).1,(qH p Ai).2]|rw [(qC p y5).1,(qC p y5).2]|rw [(qB p rS).1,(qB p rS).2]|rw [(qG p Ah).1,(qG p Ah).2]|rw [(qD p mF).1,(qD p mF).2]|rw [(qF p mE).1,(qF p mE).2]|rw [(qE p mD).1,(qE p mD).2]|rw [(qA p (t:=t) oz).1,(qA p (t:=t) oz).2]
 exact ⟨fz,fy,il,ta,tc,p.st.length,rfl,(H3.se [0,1,2])⟩
 refine aL 6 (fun y5=>?_) fun y5=>?_
 refine ae 2 (h:=ck (us:=[ak 3,av Bs.zero.w0,av Bs.zero.w1,av Bs.zero.w2,av Bs.zero.w3,ak 0,ak 0]) (k:=?_))
 have H4:aA _ _ _ [[_,_,_],[_]]:=aA.of (aE.j7 H1 (l:=[0,1,2,3]) rfl rfl) rfl
 refine ae 0 (h:=aM (c:=ue _ p oa oc p.out.length ta tc p.st.length (⟨3,Bs.zero,0,0⟩:Nd) w1 (H4.dH 0) jz jn hb) (k:=?_))
 rintro _ w3 ⟨sA,sy,qR,rfl,u3⟩
 have H5:=H4.un 0 u3
 refine bE 9 (h:=?_)
 first|rw [(qH p Ai).1,(qH p Ai).2]|rw [(qC p y5).1,(qC p y5).2]|rw [(qB p rS).1,(qB p rS).2]|rw [(qG p Ah).1,(qG p Ah).2]|rw [(qD p mF).1,(qD p mF).2]|rw [(qF p mE).1,(qF p mE).2]|rw [(qE p mD).1,(qE p mD).2]|rw [(qA p (t:=t) oz).1,(qA p (t:=t) oz).2]
 exact ⟨sA,sy,qR,ta,tc,p.st.length,rfl,(H5.se [0,1,2])⟩
 refine aL 6 (fun rS=>?_) fun rS=>?_
 refine ae 2 (h:=ck (us:=[ak 4,av Bs.zero.w0,av Bs.zero.w1,av Bs.zero.w2,av Bs.zero.w3,ak 0,ak 0]) (k:=?_))
 have H6:aA _ _ _ [[_,_,_],[_]]:=aA.of (aE.j7 H1 (l:=[0,1,2,3]) rfl rfl) rfl
 refine ae 0 (h:=aM (c:=ue _ p oa oc p.out.length ta tc p.st.length (⟨4,Bs.zero,0,0⟩:Nd) w1 (H6.dH 0) jz jn hb) (k:=?_))
 rintro _ w4 ⟨x7,x6,x5,rfl,u4⟩
 have H7:=H6.un 0 u4
 refine bE 9 (h:=?_)
 first|rw [(qH p Ai).1,(qH p Ai).2]|rw [(qC p y5).1,(qC p y5).2]|rw [(qB p rS).1,(qB p rS).2]|rw [(qG p Ah).1,(qG p Ah).2]|rw [(qD p mF).1,(qD p mF).2]|rw [(qF p mE).1,(qF p mE).2]|rw [(qE p mD).1,(qE p mD).2]|rw [(qA p (t:=t) oz).1,(qA p (t:=t) oz).2]
 exact ⟨x7,x6,x5,ta,tc,p.st.length,rfl,(H7.se [0,1,2])⟩
 refine aL 6 (fun Ah=>?_) fun Ah=>?_
 have H8:aA _ _ _ [[_,_,_],[_]]:=aA.of (aE.j7 H1 (l:=[0,1,2,3]) rfl rfl) rfl
 refine ae 2 (h:=aM (c:=pf _ p oa oc p.out.length ta tc p.st.length w1 (H8.dH 0) jz jn hb) (k:=?_))
 rintro _ w5 ⟨E4,E0,EV,rfl,u5⟩
 have H9:=H8.un 0 u5
 refine bE 9 (h:=?_)
 first|rw [(qH p Ai).1,(qH p Ai).2]|rw [(qC p y5).1,(qC p y5).2]|rw [(qB p rS).1,(qB p rS).2]|rw [(qG p Ah).1,(qG p Ah).2]|rw [(qD p mF).1,(qD p mF).2]|rw [(qF p mE).1,(qF p mE).2]|rw [(qE p mD).1,(qE p mD).2]|rw [(qA p (t:=t) oz).1,(qA p (t:=t) oz).2]
 exact ⟨E4,E0,EV,ta,tc,p.st.length,rfl,(H9.se [0,1,2])⟩
 refine aL 6 (fun mF=>?_) fun mF=>?_
 refine ae 3 (h:=b8 (H1.b 3) (k:=?_))
 have bO:aA _ _ _ [[_,_,_],[_]]:=aA.of (aE.j7 H1 (l:=[0,1,2,3]) rfl rfl) rfl
 refine ae 0 (h:=aM (c:=EK _ p oa oc p.out.length ta tc p.st.length t w1 (bO.dH 0) jz jn hb) (k:=?_))
 rintro _ w6 ⟨E3,EZ,EU,rfl,u6⟩
 have bR:=bO.un 0 u6
 refine bE 4 (h:=?_)
 first|rw [(qH p Ai).1,(qH p Ai).2]|rw [(qC p y5).1,(qC p y5).2]|rw [(qB p rS).1,(qB p rS).2]|rw [(qG p Ah).1,(qG p Ah).2]|rw [(qD p mF).1,(qD p mF).2]|rw [(qF p mE).1,(qF p mE).2]|rw [(qE p mD).1,(qE p mD).2]|rw [(qA p (t:=t) oz).1,(qA p (t:=t) oz).2]
 exact ⟨E3,EZ,EU,ta,tc,p.st.length,rfl,(bR.se [0,1,2])⟩
 refine aL 6 (fun mE=>?_) fun mE=>?_
 have cm:aA _ _ _ [[_,_,_],[_]]:=aA.of (aE.j7 H1 (l:=[0,1,2,3]) rfl rfl) rfl
 refine ae 3 (h:=aM (c:=Ml _ p oa oc p.out.length ta tc p.st.length w1 (cm.dH 0) jz jn hb) (k:=?_))
 rintro _ w7 ⟨E2,EY,ET,jd,jc,Ou,rfl,u7⟩
 have cW:=cm.un 0 u7
 refine bE 4 (h:=?_)
 first|rw [(qH p Ai).1,(qH p Ai).2]|rw [(qC p y5).1,(qC p y5).2]|rw [(qB p rS).1,(qB p rS).2]|rw [(qG p Ah).1,(qG p Ah).2]|rw [(qD p mF).1,(qD p mF).2]|rw [(qF p mE).1,(qF p mE).2]|rw [(qE p mD).1,(qE p mD).2]|rw [(qA p (t:=t) oz).1,(qA p (t:=t) oz).2]
 exact ⟨E2,EY,ET,jd,jc,Ou,rfl,(cW.se [0,1,2])⟩
 refine aL 6 (fun mD=>?_) fun mD=>?_
 have cH:aA _ _ _ [[_,_,_],[_]]:=aA.of (aE.j7 H1 (l:=[0,1,2,3]) rfl rfl) rfl
 refine ae 3 (h:=aM (c:=HH _ p oa oc p.out.length ta tc p.st.length w1 (cH.dH 0) jz jn hb) (k:=?_))
 rintro _ w8 ⟨E1,EX,ES,r8,r7,aaJ,rfl,u8⟩
 have cI:=cH.un 0 u8
 refine bE 4 (h:=?_)
 first|rw [(qH p Ai).1,(qH p Ai).2]|rw [(qC p y5).1,(qC p y5).2]|rw [(qB p rS).1,(qB p rS).2]|rw [(qG p Ah).1,(qG p Ah).2]|rw [(qD p mF).1,(qD p mF).2]|rw [(qF p mE).1,(qF p mE).2]|rw [(qE p mD).1,(qE p mD).2]|rw [(qA p (t:=t) oz).1,(qA p (t:=t) oz).2]
 exact ⟨E1,EX,ES,r8,r7,aaJ,rfl,(cI.se [0,1,2])⟩
 refine bE 6 (h:=?_)
 first|rw [(qH p Ai).1,(qH p Ai).2]|rw [(qC p y5).1,(qC p y5).2]|rw [(qB p rS).1,(qB p rS).2]|rw [(qG p Ah).1,(qG p Ah).2]|rw [(qD p mF).1,(qD p mF).2]|rw [(qF p mE).1,(qF p mE).2]|rw [(qE p mD).1,(qE p mD).2]|rw [(qA p (t:=t) oz).1,(qA p (t:=t) oz).2]
 exact ⟨oa,oc,p.out.length,ta,tc,p.st.length,rfl,(H1.se [0,1,2])⟩
theorem TF (la:aO) (l:List Tk) (lc:Nat) (end_:Int) (w:World) (rl:cd dT w la l lc) (hl:l.length≤1000):
 Calls Tryz.prog 54 #[aG la l lc,ak end_] w (bj fun v w'=>∃a2 c2,∃n2:Nat,∃o:List Nd,∃at_ er,v= .tuple #[.slice a2 n2 c2,ak at_,ak er]∧aE w [] w' [aj aJ (.slice a2 n2 c2) 89 o]∧(GI l end_ o at_ er)):=by
 have dD:=rl.le
 refine cL Tryz.func54 (h:=fun H0=>ae 9 (h:=ck (k:=ae 0 (h:=db gR ([(⟨0,0⟩:Lv)]:List Lv) H0 (k:=fun w1 H1=>ae 0 (h:=ck (k:=ae 0 (h:=gI H1 (k:=fun w2 H2=>?_)))))))))
 have H3:aA w [] w2 [[aj gR (.slice (some ⟨w.heap.size,0,none⟩) (([(⟨0,0⟩:Lv)]:List Lv).length) (([(⟨0,0⟩:Lv)]:List Lv).length)) 142 ([(⟨0,0⟩:Lv)]:List Lv)],[bm w1.heap.size #[.slice none (([]:List Nd).length) 0,.slice (some ⟨w.heap.size,0,none⟩) (([(⟨0,0⟩:Lv)]:List Lv).length) (([(⟨0,0⟩:Lv)]:List Lv).length),.bool false] 145],[aj aJ (.slice none (([]:List Nd).length) 0) 89 ([]:List Nd)]]:=H2.im (aE.Cl w2 aJ 89)
 refine cY 12 [17,16,15,7,6,5,4,1] (fun B R L m e v=>∃k,∃p:PS,∃xa xc,∃xn:Nat,∃ya yc,∃yn:Nat,e=(17,bJ k)::B∧aA w L v ([aj gR (.slice ya yn yc) 142 p.st]::[bm w1.heap.size #[.slice xa xn xc,.slice ya yn yc,.bool p.fH] 145]::[aj aJ (.slice xa xn xc) 89 p.out]::R)∧(k≤l.length)∧(p=dU l k)∧(∀j,j<k→fk l j=0)∧m=l.length-k) (i:=⟨0,Pw,none,0,([]:List Nd).length,(some ⟨w.heap.size,0,none⟩),([(⟨0,0⟩:Lv)]:List Lv).length,([(⟨0,0⟩:Lv)]:List Lv).length,rfl,(H3.re rfl),om,rfl,(by intro j hj;omega),rfl⟩) (h:=?_)
 rintro m1 Γ1 w3 ⟨k,p,xa,xc,xn,ya,yc,yn,rfl,H4,hk,hp,bX,rfl⟩
 have hyn:yn=p.st.length:=by first|exact (cQ (H4.cB 1 rfl) (List.mem_of_getElem? (i:=0) rfl)).len|exact (cQ (H4.cB 2 rfl) (List.mem_of_getElem? (i:=0) rfl)).len|exact (cQ (H4.cB 0 rfl) (List.mem_of_getElem? (i:=0) rfl)).len
 have hbd:=xq l k
 refine aL 6 (fun RV=>?_) fun RV=>?_
 refine ae 6 (h:=fI k (rl.at H4) (k:=ae 0 (h:=zt (rl.at H4) (k:=ae 0 (h:=da H4 (k:=fun w4 H5=>aU 0 (h:=bC H5 3 (k:=fun w5 H6=>ae 5 (h:=b8 (H6.b 3) (k:=?_))))))))))
 have H7:aA _ _ _ [[_,_,_],[_]]:=aA.of (aE.j7 H6 (l:=[1,2,0,3]) rfl rfl) rfl
 refine ae 0 (h:=aM (c:=HE _ p xa xc xn ya yc yn (l.getD k dz) w5 (H7.dH 0) (by rw [hp];exact Et (BX l k oz) oz) (by rw [hp];exact jg l k) (by have h9:=xq l k oz;rw [hp];omega)) (k:=?_))
 rintro _ w6 ⟨fz,fy,il,jd,jc,Ou,rfl,u5⟩
 have H8:=H7.un 0 u5
 refine aL 9 (fun Jl=>?_) fun Jl=>?_
 exact eI 1 H8 (h:=fun w7 H9=>cP 1 1 (H9.b 1) (D:=fun _ hC=>aH hC) (h:=nP 7 (h:=⟨none,0,0,[],(l.getD k dz).pos,ei p (l.getD k dz),rfl,ej H9,(.inl ⟨k,by omega,bX,by unfold fk;rw [←hp];simpa using Jl,rfl,rfl,by unfold fk;rw [←hp]⟩)⟩)))
 exact ae 4 (h:=aX (k:=b6 2 (h:=by exact ⟨k+1,gb p (l.getD k dz),fz,fy,il,jd,jc,Ou,rfl,(H8.pm [2,0,1] rfl rfl),om,(by rw [jf oz,←hp]),(by intro j hj;exact (Nat.lt_or_ge j k).elim (bX j) (fun h9=>by (obtain rfl:j=k:=by omega);unfold fk;rw [←hp];simpa using Jl)),rfl⟩)))
 refine ae 8 (h:=aH (H4.b 1) (k:=aL 4 (fun oo=>?_) fun oo=>?_))
 refine nP 9 (h:=?_)
 obtain rfl:k=l.length:=by omega
 exact ⟨none,0,0,[],end_,3,rfl,ej H4,(.inr ⟨bX,.inl ⟨by rw [←hp];omega,rfl,rfl,rfl⟩⟩)⟩
 have bO:aA _ _ _ [[_,_,_]]:=aA.of (aE.j7 H4 (l:=[1,2,0]) rfl rfl) rfl
 refine ae 5 (h:=aM (c:=pf _ p xa xc xn ya yc yn w3 (bO.dH 0) (by rw [hp];exact Et (BX l k oz) oz) (by rw [hp];exact jg l k) (by have h9:=xq l k oz;rw [hp];omega)) (k:=?_))
 rintro _ w8 ⟨sA,sy,qR,rfl,u6⟩
 have bR:=bO.un 0 u6
 have Qy:qR=((bW p).out).length:=(cQ (bR.cB 0 rfl) (List.mem_of_getElem? (i:=1) rfl)).len
 refine ae 8 (h:=aH ((bR.dH 0).bm (List.mem_of_getElem? (i:=0) rfl)) (k:=aL 4 (fun kA=>?_) fun kA=>?_))
 refine nP 8 (h:=?_)
 obtain rfl:k=l.length:=by omega
 exact ⟨none,0,0,[],0,4,rfl,ej bR,(.inr ⟨bX,.inr ⟨by have h9:=jg l l.length;rw [←hp] at h9 ⊢;omega,.inl ⟨by rw [←hp];omega,rfl,rfl,rfl⟩⟩⟩)⟩
 refine ae 7 (h:=aH ((bR.dH 0).bm (List.mem_of_getElem? (i:=0) rfl)) (k:=nP 6 (h:=?_)))
 obtain rfl:k=l.length:=by omega
 have cm:=bR.sn
 exact ⟨sA,sy,qR,(bW p).out,0,0,rfl,cm.iz 1,(.inr ⟨bX,.inr ⟨by have h9:=jg l l.length;rw [←hp] at h9 ⊢;omega,.inr ⟨by rw [←hp];omega,by rw [←hp],rfl,rfl⟩⟩⟩)⟩
theorem Hl (la:aO) (l:List Tk) (lc:Nat) (w:World) (rl:cd dT w la l lc) (hl:l.length≤1000):
 Calls Tryz.prog 77 #[aG la l lc] w (bj fun v w'=>∃i_ e_ op_,v= .tuple #[ak i_,ak e_,ak op_]∧aE w [] w' []∧(WrR l i_ e_ op_)):=by
 have dD:=rl.le
 refine cL Tryz.func77 (h:=fun H0=>cY 19 [6,5,4,3,2,0] (fun B R L m e v=>∃k op,e=(6,bJ k)::(5,ak op)::B∧aA w L v (R)∧(k≤l.length)∧(Sk l k op)∧(op≤20)∧m=l.length-k) (i:=⟨0,0,rfl,H0,om,(by exact Sk.start l),oz,rfl⟩) (h:=?_))
 rintro m1 Γ1 w1 ⟨k,op,rfl,H1,hk,hW,NV,rfl⟩
 have jR:=hW.2
 have hbd:=xq l k
 have T7:=jg l k
 refine aL 9 (fun c12=>?_) fun c12=>?_
 refine ae 8 (h:=fI k (rl.at H1) (k:=ae 0 (h:=zt (rl.at H1) (k:=ae 0 (h:=da H1 (k:=fun w2 H2=>aU 0 (h:=bC H2 0 (k:=fun w3 H3=>mK 2 [7,6,5,4,3,2,0] 0 H3 (fun B R L e v=>∃q1:Bool,e=(8,.bool q1)::B∧aA w L v (R)∧((q1=true)↔mz l k)) ?_ ?_))))))))
 refine bZ 4 21 (fun g14=>?_) fun g14=>?_
 refine ae 2 (h:=jK (k:=ae 0 (h:=fI (k-1) (rl.at H3) (cN:=oz) (k:=ae 0 (h:=iL (rl.at H3) (k:=ae 0 (h:=nU (rl.at H3) (k:=bZ 2 29 (fun ahU=>?_) fun ahU=>?_))))))))
 exact cy 38 (h:=by exact ⟨true,rfl,H3,(by unfold mz;simp only [decide_eq_true_eq,Bool.false_eq_true,false_iff,true_iff];omega)⟩)
 refine ae 2 (h:=jK (k:=ae 0 (h:=fI (k-1) (rl.at H3) (cN:=oz) (k:=ae 0 (h:=iL (rl.at H3) (k:=ae 0 (h:=nU (rl.at H3) (k:=bZ 3 38 (fun adg=>?_) fun adg=>?_))))))))
 exact cy 29 (h:=by exact ⟨true,rfl,H3,(by unfold mz;simp only [decide_eq_true_eq,Bool.false_eq_true,false_iff,true_iff];omega)⟩)
 refine ae 2 (h:=jK (k:=ae 0 (h:=fI (k-1) (rl.at H3) (cN:=oz) (k:=ae 0 (h:=iL (rl.at H3) (k:=ae 0 (h:=nU (rl.at H3) (k:=bZ 3 47 (fun Yw=>?_) fun Yw=>?_))))))))
 exact cy 20 (h:=by exact ⟨true,rfl,H3,(by unfold mz;simp only [decide_eq_true_eq,Bool.false_eq_true,false_iff,true_iff];omega)⟩)
 refine ae 2 (h:=jK (k:=ae 0 (h:=fI (k-1) (rl.at H3) (cN:=oz) (k:=ae 0 (h:=iL (rl.at H3) (k:=ae 0 (h:=nU (rl.at H3) (k:=bZ 3 56 (fun Ux=>?_) fun Ux=>?_))))))))
 exact cy 11 (h:=by exact ⟨true,rfl,H3,(by unfold mz;simp only [decide_eq_true_eq,Bool.false_eq_true,false_iff,true_iff];omega)⟩)
 exact ae 2 (h:=jK (k:=ae 0 (h:=fI (k-1) (rl.at H3) (cN:=oz) (k:=ae 0 (h:=iL (rl.at H3) (k:=ae 0 (h:=nU (rl.at H3) (k:=cy 5 (h:=by exact ⟨decide (((l.getD (k-1) dz).kind)=(4:Int)),rfl,H3,(by unfold mz;simp only [decide_eq_true_eq,Bool.false_eq_true,false_iff,true_iff];omega)⟩)))))))))
 exact cy 46 (h:=by exact ⟨false,rfl,H3,(by unfold mz;simp only [decide_eq_true_eq,Bool.false_eq_true,false_iff,true_iff];omega)⟩)
 rintro Γ2 w4 ⟨q1,rfl,H4,NU⟩
 refine mK 1 [8,7,6,5,4,3,2,0] 0 H4 (fun B R L e v=>∃q2:Bool,e=(73,.bool q2)::B∧aA w L v (R)∧(q2=decide ((l.getD k dz).kind<1∨(l.getD k dz).kind>7))) ?_ ?_
 refine ae 2 (h:=aH (H4.b 0) (k:=bZ 2 69 (fun g15=>?_) fun g15=>?_))
 exact cy 5 (h:=by exact ⟨true,rfl,H4,(by rw [Bool.eq_iff_iff];simp only [decide_eq_true_eq,true_iff,false_iff,Bool.false_eq_true];omega)⟩)
 exact ae 1 (h:=aH (H4.b 0) (k:=cy 3 (h:=by exact ⟨decide (((l.getD k dz).kind)>(7:Int)),rfl,H4,(by rw [Bool.eq_iff_iff];simp only [decide_eq_true_eq,true_iff,false_iff,Bool.false_eq_true];omega)⟩)))
 rintro Γ3 w5 ⟨q2,rfl,H5,zx⟩
 refine cS 0 (fun zE=>?_) fun zE=>?_
 exact nP 10 (h:=⟨((k:Nat):Int),9,op,rfl,H5.ag,(hW.bad oz (By (of_decide_eq_true (zx.symm.trans zE))) dF)⟩)
 refine ae 6 (h:=aH (H5.b 0) (k:=aL 3 (fun lu=>?_) fun lu=>?_))
 refine mK 1 [8,7,6,5,4,3,2,0] 0 H5 (fun B R L e v=>∃q3:Bool,e=(103,.bool q3)::B∧aA w L v (R)∧(q3=decide (dw (l.getD k dz)))) ?_ ?_
 refine ae 2 (h:=aH (H5.b 0) (k:=bZ 2 82 (fun g19=>?_) fun g19=>?_))
 exact cy 22 (h:=by exact ⟨true,rfl,H5,(by rw [Bool.eq_iff_iff];simp only [decide_eq_true_eq,true_iff,false_iff,Bool.false_eq_true];unfold dw;omega)⟩)
 refine ae 1 (h:=aH (H5.b 0) (k:=bZ 3 87 (fun ahP=>?_) fun ahP=>?_))
 exact cy 17 (h:=by exact ⟨true,rfl,H5,(by rw [Bool.eq_iff_iff];simp only [decide_eq_true_eq,true_iff,false_iff,Bool.false_eq_true];unfold dw;omega)⟩)
 refine ae 1 (h:=aH (H5.b 0) (k:=bZ 2 91 (fun adb=>?_) fun adb=>?_))
 refine ae 1 (h:=aH (H5.b 0) (k:=ae 1 (h:=aH (H5.b 0) (k:=bZ 4 99 (fun Yu=>?_) fun Yu=>?_))))
 exact cy 5 (h:=by exact ⟨true,rfl,H5,(by rw [Bool.eq_iff_iff];simp only [decide_eq_true_eq,true_iff,false_iff,Bool.false_eq_true];unfold dw;omega)⟩)
 exact ae 1 (h:=aH (H5.b 0) (k:=cy 3 (h:=by exact ⟨decide (((l.getD k dz).hi)>(32:Int)),rfl,H5,(by rw [Bool.eq_iff_iff];simp only [decide_eq_true_eq,true_iff,false_iff,Bool.false_eq_true];unfold dw;omega)⟩)))
 exact ae 9 (h:=aH (H5.b 0) (k:=cy 3 (h:=by exact ⟨decide (((l.getD k dz).hi)>(32:Int)),rfl,H5,(by rw [Bool.eq_iff_iff];simp only [decide_eq_true_eq,true_iff,false_iff,Bool.false_eq_true];unfold dw;omega)⟩)))
 rintro Γ4 w6 ⟨q3,rfl,H6,MS⟩
 refine cS 0 (fun y6=>?_) fun y6=>?_
 exact nP 10 (h:=⟨((k:Nat):Int),9,op,rfl,H6.ag,(hW.bad oz (F5 lu (of_decide_eq_true (MS.symm.trans y6))) dF)⟩)
 refine cS 8 (fun mr=>?_) fun mr=>?_
 exact nP 10 (h:=⟨((k:Nat):Int),3,op,rfl,H6.ag,(hW.bad oz (Bx lu (fun h8=>y6 (MS.trans (decide_eq_true h8))) (fun h8=>by have h9:=NU.2 ((jk oz hW.1).1 h8);rw [h9] at mr;cases mr)) dF)⟩)
 refine ae 6 (h:=aH (H6.b 0) (k:=aL 3 (fun fg=>?_) fun fg=>?_))
 refine aL 7 (fun C8=>?_) fun C8=>?_
 exact nP 10 (h:=⟨((k:Nat):Int),4,op,rfl,H6.ag,(hW.bad oz (by rw [fL fg,if_pos oz]) dF)⟩)
 refine ae 4 (h:=aX (k:=ae 6 (h:=aH (H6.b 0) (k:=aL 3 (fun ju=>?_) fun ju=>?_))))
 refine aL 7 (fun Ak=>?_) fun Ak=>?_
 exact nP 10 (h:=⟨((k:Nat):Int),3,op+1,rfl,H6.ag,(by first|(exfalso;omega)|exact hW.bad oz (by rw [dx ju,if_pos oz]) (by decide))⟩)
 exact ae 4 (h:=jK (k:=ae 6 (h:=aX (k:=b6 2 (h:=by exact ⟨k+1,(op+1)-1,rfl,(H6.pm [] rfl rfl),om,(by exact hW.next oz (by first|exact iQ lu (by rw [MS] at y6;simpa using y6) ((jk oz hW.1).2 (NU.1 (by simpa using mr)))|(rw [fL fg,if_neg oz])|(rw [dx ju,if_neg oz])|exact iR (by rw [zx] at zE;simp only [decide_eq_true_eq] at zE;omega)) (by first|(exfalso;omega)|(rw [if_pos fg];done)|(rw [if_neg fg,if_pos ju];done)|(rw [if_neg fg,if_neg ju];done))),oz,rfl⟩)))))
 exact ae 5 (h:=aX (k:=b6 2 (h:=by exact ⟨k+1,op+1,rfl,(H6.pm [] rfl rfl),om,(by exact hW.next oz (by first|exact iQ lu (by rw [MS] at y6;simpa using y6) ((jk oz hW.1).2 (NU.1 (by simpa using mr)))|(rw [fL fg,if_neg oz])|(rw [dx ju,if_neg oz])|exact iR (by rw [zx] at zE;simp only [decide_eq_true_eq] at zE;omega)) (by first|(exfalso;omega)|(rw [if_pos fg];done)|(rw [if_neg fg,if_pos ju];done)|(rw [if_neg fg,if_neg ju];done))),oz,rfl⟩)))
 refine ae 5 (h:=aH (H6.b 0) (k:=aL 3 (fun ju=>?_) fun ju=>?_))
 refine aL 7 (fun Ak=>?_) fun Ak=>?_
 exact nP 10 (h:=⟨((k:Nat):Int),3,op,rfl,H6.ag,(by first|(exfalso;omega)|exact hW.bad oz (by rw [dx ju,if_pos oz]) (by decide))⟩)
 exact ae 4 (h:=jK (k:=ae 6 (h:=aX (k:=b6 2 (h:=by exact ⟨k+1,op-1,rfl,(H6.pm [] rfl rfl),om,(by exact hW.next oz (by first|exact iQ lu (by rw [MS] at y6;simpa using y6) ((jk oz hW.1).2 (NU.1 (by simpa using mr)))|(rw [fL fg,if_neg oz])|(rw [dx ju,if_neg oz])|exact iR (by rw [zx] at zE;simp only [decide_eq_true_eq] at zE;omega)) (by first|(exfalso;omega)|(rw [if_pos fg];done)|(rw [if_neg fg,if_pos ju];done)|(rw [if_neg fg,if_neg ju];done))),oz,rfl⟩)))))
 exact ae 5 (h:=aX (k:=b6 2 (h:=by exact ⟨k+1,op,rfl,(H6.pm [] rfl rfl),om,(by exact hW.next oz (by first|exact iQ lu (by rw [MS] at y6;simpa using y6) ((jk oz hW.1).2 (NU.1 (by simpa using mr)))|(rw [fL fg,if_neg oz])|(rw [dx ju,if_neg oz])|exact iR (by rw [zx] at zE;simp only [decide_eq_true_eq] at zE;omega)) (by first|(exfalso;omega)|(rw [if_pos fg];done)|(rw [if_neg fg,if_pos ju];done)|(rw [if_neg fg,if_neg ju];done))),oz,rfl⟩)))
 refine ae 6 (h:=aH (H5.b 0) (k:=aL 3 (fun fg=>?_) fun fg=>?_))
 refine aL 7 (fun C8=>?_) fun C8=>?_
 exact nP 10 (h:=⟨((k:Nat):Int),4,op,rfl,H5.ag,(hW.bad oz (by rw [fL fg,if_pos oz]) dF)⟩)
 refine ae 4 (h:=aX (k:=ae 6 (h:=aH (H5.b 0) (k:=aL 3 (fun ju=>?_) fun ju=>?_))))
 refine aL 7 (fun Ak=>?_) fun Ak=>?_
 exact nP 10 (h:=⟨((k:Nat):Int),3,op+1,rfl,H5.ag,(by first|(exfalso;omega)|exact hW.bad oz (by rw [dx ju,if_pos oz]) (by decide))⟩)
 exact ae 4 (h:=jK (k:=ae 6 (h:=aX (k:=b6 2 (h:=by exact ⟨k+1,(op+1)-1,rfl,(H5.pm [] rfl rfl),om,(by exact hW.next oz (by first|exact iQ lu (by rw [MS] at y6;simpa using y6) ((jk oz hW.1).2 (NU.1 (by simpa using mr)))|(rw [fL fg,if_neg oz])|(rw [dx ju,if_neg oz])|exact iR (by rw [zx] at zE;simp only [decide_eq_true_eq] at zE;omega)) (by first|(exfalso;omega)|(rw [if_pos fg];done)|(rw [if_neg fg,if_pos ju];done)|(rw [if_neg fg,if_neg ju];done))),oz,rfl⟩)))))
 exact ae 5 (h:=aX (k:=b6 2 (h:=by exact ⟨k+1,op+1,rfl,(H5.pm [] rfl rfl),om,(by exact hW.next oz (by first|exact iQ lu (by rw [MS] at y6;simpa using y6) ((jk oz hW.1).2 (NU.1 (by simpa using mr)))|(rw [fL fg,if_neg oz])|(rw [dx ju,if_neg oz])|exact iR (by rw [zx] at zE;simp only [decide_eq_true_eq] at zE;omega)) (by first|(exfalso;omega)|(rw [if_pos fg];done)|(rw [if_neg fg,if_pos ju];done)|(rw [if_neg fg,if_neg ju];done))),oz,rfl⟩)))
 refine ae 5 (h:=aH (H5.b 0) (k:=aL 3 (fun ju=>?_) fun ju=>?_))
 refine aL 7 (fun Ak=>?_) fun Ak=>?_
 exact nP 10 (h:=⟨((k:Nat):Int),3,op,rfl,H5.ag,(by first|(exfalso;omega)|exact hW.bad oz (by rw [dx ju,if_pos oz]) (by decide))⟩)
 exact ae 4 (h:=jK (k:=ae 6 (h:=aX (k:=b6 2 (h:=by exact ⟨k+1,op-1,rfl,(H5.pm [] rfl rfl),om,(by exact hW.next oz (by first|exact iQ lu (by rw [MS] at y6;simpa using y6) ((jk oz hW.1).2 (NU.1 (by simpa using mr)))|(rw [fL fg,if_neg oz])|(rw [dx ju,if_neg oz])|exact iR (by rw [zx] at zE;simp only [decide_eq_true_eq] at zE;omega)) (by first|(exfalso;omega)|(rw [if_pos fg];done)|(rw [if_neg fg,if_pos ju];done)|(rw [if_neg fg,if_neg ju];done))),oz,rfl⟩)))))
 exact ae 5 (h:=aX (k:=b6 2 (h:=by exact ⟨k+1,op,rfl,(H5.pm [] rfl rfl),om,(by exact hW.next oz (by first|exact iQ lu (by rw [MS] at y6;simpa using y6) ((jk oz hW.1).2 (NU.1 (by simpa using mr)))|(rw [fL fg,if_neg oz])|(rw [dx ju,if_neg oz])|exact iR (by rw [zx] at zE;simp only [decide_eq_true_eq] at zE;omega)) (by first|(exfalso;omega)|(rw [if_pos fg];done)|(rw [if_neg fg,if_pos ju];done)|(rw [if_neg fg,if_neg ju];done))),oz,rfl⟩)))
 exact nP 11 (h:=⟨-1,0,op,rfl,H1.ag,(hW.fin oz)⟩)
theorem tX (la:aO) (l:List Tk) (lc:Nat) (dq:Int) (at_:Nat) (N:Nat) (w:World) (rl:bH dT w (.slice la l.length lc) l) (eP:dq=((at_:Nat):Int)) (hl:l.length≤1000) (hg:dX l) (yx:(dU l at_).fH=false) (ha:at_≤l.length) (hN:3*(l.length-at_)+2<N+1) (sT:∀(la:aO) (l:List Tk) (lc:Nat) (dq:Int) (at_:Nat) (w:World) (rl:bH dT w (.slice la l.length lc) l) (eP:dq=((at_:Nat):Int)) (hl:l.length≤1000) (hg:dX l) (yx:(dU l at_).fH=false) (ha:at_≤l.length) (cX:3*(l.length-at_)+2<N),Calls Tryz.prog 78 #[.slice la l.length lc,ak dq] w (bj fun v w'=>∃a2 c2,∃o:List Nd,∃nx,v= .tuple #[.slice a2 o.length c2,bJ nx]∧aE w [] w' [aj aJ (.slice a2 o.length c2) 89 o]∧(tE l at_ o nx)∧(o.length≤6*(nx-at_)+1))) (Bh:∀(la:aO) (l:List Tk) (lc:Nat) (dq:Int) (at_:Nat) (w:World) (rl:bH dT w (.slice la l.length lc) l) (eP:dq=((at_:Nat):Int)) (hl:l.length≤1000) (hg:dX l) (yx:(dU l at_).fH=false) (ha:at_≤l.length) (cX:3*(l.length-at_)+1<N),Calls Tryz.prog 95 #[.slice la l.length lc,ak dq] w (bj fun v w'=>∃a2 c2,∃o:List Nd,∃nx,v= .tuple #[.slice a2 o.length c2,bJ nx]∧aE w [] w' [aj aJ (.slice a2 o.length c2) 89 o]∧(GM l at_ o nx)∧(o.length≤6*(nx-at_)+1))) (XH:∀(la:aO) (l:List Tk) (lc:Nat) (dq:Int) (at_:Nat) (w:World) (rl:bH dT w (.slice la l.length lc) l) (eP:dq=((at_:Nat):Int)) (hl:l.length≤1000) (hg:dX l) (Uh:(l.getD at_ dz).kind=1∨(l.getD at_ dz).kind=3∨(l.getD at_ dz).kind=6∨(l.getD at_ dz).kind=7) (ha:at_<l.length) (cX:3*(l.length-at_)<N),Calls Tryz.prog 139 #[.slice la l.length lc,ak dq] w (bj fun v w'=>∃a2 c2,∃o:List Nd,∃nx,v= .tuple #[.slice a2 o.length c2,bJ nx]∧aE w [] w' [aj aJ (.slice a2 o.length c2) 89 o]∧(dW l at_ o nx)∧(o.length+3≤6*(nx-at_))∧(nx<l.length→¬(l.getD nx dz).kind=5))):
 Calls Tryz.prog 78 #[.slice la l.length lc,ak dq] w (bj fun v w'=>∃a2 c2,∃o:List Nd,∃nx,v= .tuple #[.slice a2 o.length c2,bJ nx]∧aE w [] w' [aj aJ (.slice a2 o.length c2) 89 o]∧(tE l at_ o nx)∧(o.length≤6*(nx-at_)+1)):=by
 subst eP
 have dD:=rl.le
 refine cL Tryz.func78 (h:=fun H0=>ae 10 (h:=aM (c:=Bh la l lc _ at_ w (rl.at H0) oz hl hg (by first|exact yx|exact mS hg oz (.inr (by assumption))|exact mS hg oz (.inl oz)) oz oz) (k:=?_)))
 rintro _ w1 ⟨bN,cv,mV,eW,rfl,u1,ng,XY⟩
 have H1:=H0.ns u1
 refine cY 9 [7,6,5,4,0] (fun B R L m e v=>∃x:List Nd,∃xa xc i,e=(7,bJ i)::(6,.slice xa x.length xc)::B∧aA w L v ([aj aJ (.slice xa x.length xc) 89 x]::R)∧(Ar l at_ x i)∧(at_≤i∧i≤l.length)∧(x.length≤6*(i-at_)+1)∧m=l.length-i) (i:=⟨mV,bN,cv,eW,rfl,H1,(by exact Ar.start ng),(by exact ⟨ng.1,ng.2.1⟩),oz,rfl⟩) (h:=?_)
 rintro m1 Γ1 w2 ⟨x,xa,xc,i,rfl,H2,hE,hi,hz,rfl⟩
 refine bZ 8 20 (fun g45=>?_) fun g45=>?_
 refine ae 2 (h:=fI i (rl.at H2) (k:=ae 0 (h:=iL (rl.at H2) (k:=ae 0 (h:=nU (rl.at H2) (k:=aL 4 (fun DK=>?_) fun DK=>?_))))))
 have hE1:=hE.1
 refine ae 7 (h:=aX (k:=ae 0 (h:=aM (c:=Bh la l lc _ (i+1) w2 (rl.at H2) oz hl hg (by first|exact yx|exact mS hg oz (.inr (by assumption))|exact mS hg oz (.inl oz)) oz oz) (k:=?_))))
 rintro _ w3 ⟨gW,jB,o_2,Cg,rfl,u2,iK,al5⟩
 have H3:Uu2:=(H2.im u2).re rfl
 have alT:=iK.1
 have alS:=iK.2.1
 refine ae 11 (h:=fT H3 0 (H3.rt 1) (hb:=b9) (gk:=b9) (k:=fun a1 c1 w4 GK=>?_))
 have H4:=GK.no
 refine ae 6 (h:=ck (us:=[ak 6,av Bs.zero.w0,av Bs.zero.w1,av Bs.zero.w2,av Bs.zero.w3,ak 0,ak 0]) (k:=ae 0 (h:=db aJ ([(⟨6,Bs.zero,0,0⟩:Nd)]:List Nd) H4 (k:=fun w5 H5=>ae 0 (h:=fT H5 0 (H5.rt 2) (hb:=b9) (gk:=b9) (k:=fun a2 c2 w6 Vu=>?_))))))
 have H6:=(Vu.drop 2).no
 exact cG 3 [6,9,26,25,24,23,22,21,5,4,0] (h:=b6 5 (h:=by exact ⟨(x++o_2)++([(⟨6,Bs.zero,0,0⟩:Nd)]:List Nd),a2,c2,Cg,rfl,(H6.pm [0] rfl rfl),(by exact Ar.step hg hE oz DK iK),(by have h9:=iK.1;have h8:=iK.2.1;omega),(by have h9:=iK.1;have h8:=iK.2.1;simp only [List.length_append,List.length_singleton];omega),rfl⟩))
 have QJ:tE l at_ x i:=hE.fin (fun h9 h8=>by first|omega|exact DK h8)
 exact gr 11 (h:=⟨xa,xc,x,i,rfl,H2.iz 0,QJ,oz⟩)
 have QJ:tE l at_ x i:=hE.fin (fun h9 h8=>by first|omega|exact DK h8)
 exact gr 21 (h:=⟨xa,xc,x,i,rfl,H2.iz 0,QJ,oz⟩)
theorem tY (la:aO) (l:List Tk) (lc:Nat) (dq:Int) (at_:Nat) (N:Nat) (w:World) (rl:bH dT w (.slice la l.length lc) l) (eP:dq=((at_:Nat):Int)) (hl:l.length≤1000) (hg:dX l) (yx:(dU l at_).fH=false) (ha:at_≤l.length) (hN:3*(l.length-at_)+1<N+1) (sT:∀(la:aO) (l:List Tk) (lc:Nat) (dq:Int) (at_:Nat) (w:World) (rl:bH dT w (.slice la l.length lc) l) (eP:dq=((at_:Nat):Int)) (hl:l.length≤1000) (hg:dX l) (yx:(dU l at_).fH=false) (ha:at_≤l.length) (cX:3*(l.length-at_)+2<N),Calls Tryz.prog 78 #[.slice la l.length lc,ak dq] w (bj fun v w'=>∃a2 c2,∃o:List Nd,∃nx,v= .tuple #[.slice a2 o.length c2,bJ nx]∧aE w [] w' [aj aJ (.slice a2 o.length c2) 89 o]∧(tE l at_ o nx)∧(o.length≤6*(nx-at_)+1))) (Bh:∀(la:aO) (l:List Tk) (lc:Nat) (dq:Int) (at_:Nat) (w:World) (rl:bH dT w (.slice la l.length lc) l) (eP:dq=((at_:Nat):Int)) (hl:l.length≤1000) (hg:dX l) (yx:(dU l at_).fH=false) (ha:at_≤l.length) (cX:3*(l.length-at_)+1<N),Calls Tryz.prog 95 #[.slice la l.length lc,ak dq] w (bj fun v w'=>∃a2 c2,∃o:List Nd,∃nx,v= .tuple #[.slice a2 o.length c2,bJ nx]∧aE w [] w' [aj aJ (.slice a2 o.length c2) 89 o]∧(GM l at_ o nx)∧(o.length≤6*(nx-at_)+1))) (XH:∀(la:aO) (l:List Tk) (lc:Nat) (dq:Int) (at_:Nat) (w:World) (rl:bH dT w (.slice la l.length lc) l) (eP:dq=((at_:Nat):Int)) (hl:l.length≤1000) (hg:dX l) (Uh:(l.getD at_ dz).kind=1∨(l.getD at_ dz).kind=3∨(l.getD at_ dz).kind=6∨(l.getD at_ dz).kind=7) (ha:at_<l.length) (cX:3*(l.length-at_)<N),Calls Tryz.prog 139 #[.slice la l.length lc,ak dq] w (bj fun v w'=>∃a2 c2,∃o:List Nd,∃nx,v= .tuple #[.slice a2 o.length c2,bJ nx]∧aE w [] w' [aj aJ (.slice a2 o.length c2) 89 o]∧(dW l at_ o nx)∧(o.length+3≤6*(nx-at_))∧(nx<l.length→¬(l.getD nx dz).kind=5))):
 Calls Tryz.prog 95 #[.slice la l.length lc,ak dq] w (bj fun v w'=>∃a2 c2,∃o:List Nd,∃nx,v= .tuple #[.slice a2 o.length c2,bJ nx]∧aE w [] w' [aj aJ (.slice a2 o.length c2) 89 o]∧(GM l at_ o nx)∧(o.length≤6*(nx-at_)+1)):=by
 subst eP
 have dD:=rl.le
 refine cL Tryz.func95 (h:=fun H0=>?_)
 have H1:=H0.nr aJ 89
 refine cY 24 [8,7,6,5,4,0] (fun B R L m e v=>∃x:List Nd,∃xa xc,∃i mn,e=(8,bJ i)::(7,ak mn)::(6,.slice xa x.length xc)::B∧aA w L v ([aj aJ (.slice xa x.length xc) 89 x]::R)∧(DC l at_ x mn i)∧(at_≤i∧i≤l.length∧0≤mn∧mn≤(i:Int)-at_)∧(mn≠0→i<l.length→¬(l.getD i dz).kind=5)∧(x.length≤6*(i-at_))∧m=l.length-i) (i:=⟨([]:List Nd),none,0,at_,0,rfl,H1,(by exact DC.start l ha),oz,(by intro h9;exact absurd rfl h9),(by simp),rfl⟩) (h:=?_)
 rintro m1 Γ1 w1 ⟨x,xa,xc,i,mn,rfl,H2,hB,hi,agP,hz,rfl⟩
 refine bZ 8 16 (fun g59=>?_) fun g59=>?_
 refine ae 2 (h:=fI i (rl.at H2) (k:=ae 0 (h:=iL (rl.at H2) (k:=ae 0 (h:=nU (rl.at H2) (k:=bZ 3 24 (fun ahB=>?_) fun ahB=>?_))))))
 refine ae 2 (h:=fI i (rl.at H2) (k:=ae 0 (h:=iL (rl.at H2) (k:=ae 0 (h:=nU (rl.at H2) (k:=aL 4 (fun c59=>?_) fun c59=>?_))))))
 have hk5:(l.getD i dz).kind=5→(dU l i).fH=false:=fun h9=>by
      by_cases hm:mn=0
      · have h8:=(hB.2.2.2.1 hm).2;rw [h8];exact yx
      · exact absurd h9 (agP hm oz)
 refine ae 7 (h:=aM (c:=XH la l lc _ i w1 (rl.at H2) oz hl hg (MC hg oz qz qz hk5) oz oz) (k:=?_))
 rintro _ w2 ⟨bN,cv,mV,eW,rfl,u1,ng,XY,acf⟩
 have H3:Uu2:=(H2.im u1).re rfl
 refine cG 7 [10,9,30,29,28,27,26,25,22,21,20,19,18,17,7,6,5,4,0] (h:=?_)
 have ab2:=ng.1
 have ab1:=ng.2.1
 refine ae 4 (h:=fT H3 0 (H3.rt 1) (hb:=b9) (gk:=b9) (k:=fun a1 c1 w3 GK=>?_))
 have H4:=GK.no
 refine ae 6 (h:=aX (k:=aL 10 (fun Gk=>?_) fun Gk=>?_))
 refine ae 2 (h:=ck (us:=[ak 5,av Bs.zero.w0,av Bs.zero.w1,av Bs.zero.w2,av Bs.zero.w3,ak 0,ak 0]) (k:=ae 0 (h:=db aJ ([(⟨5,Bs.zero,0,0⟩:Nd)]:List Nd) H4 (k:=fun w4 H5=>ae 0 (h:=fT H5 0 (H5.rt 2) (hb:=b9) (gk:=b9) (k:=fun a2 c2 w5 Vu=>?_))))))
 have H6:=(Vu.drop 2).no
 exact b6 8 (h:=by exact ⟨(x++mV)++([(⟨5,Bs.zero,0,0⟩:Nd)]:List Nd),a2,c2,eW,mn+1,rfl,(H6.pm [0] rfl rfl),(by have h9:=hB.step ng;first|(rw [if_pos Gk] at h9;exact h9)|(rw [if_neg Gk] at h9;exact h9)),(by have h9:=ng.1;have h8:=ng.2.1;omega),(by exact fun _=>acf),(by have h9:=ng.1;have h8:=ng.2.1;(try simp only [List.length_append,List.length_singleton]);omega),rfl⟩)
 exact b6 7 (h:=by exact ⟨x++mV,a1,c1,eW,mn+1,rfl,(H4.pm [0] rfl rfl),(by have h9:=hB.step ng;first|(rw [if_pos Gk] at h9;exact h9)|(rw [if_neg Gk] at h9;exact h9)),(by have h9:=ng.1;have h8:=ng.2.1;omega),(by exact fun _=>acf),(by have h9:=ng.1;have h8:=ng.2.1;(try simp only [List.length_append,List.length_singleton]);omega),rfl⟩)
 refine aL 9 (fun Gj=>?_) fun Gj=>?_
 exact ae 2 (h:=ck (us:=[ak 2,av Bs.zero.w0,av Bs.zero.w1,av Bs.zero.w2,av Bs.zero.w3,ak 0,ak 0]) (k:=ae 0 (h:=db aJ ([(⟨2,Bs.zero,0,0⟩:Nd)]:List Nd) H2 (k:=fun w6 H7=>cG 5 [5,4] (h:=gr 1 (h:=⟨(some ⟨w1.heap.size,0,none⟩),([(⟨2,Bs.zero,0,0⟩:Nd)]:List Nd).length,([(⟨2,Bs.zero,0,0⟩:Nd)]:List Nd),i,rfl,H7.iz 1,(hB.fin (fun h9=>by omega) (by rw [if_pos Gj];rfl)),(by simp)⟩))))))
 exact gr 11 (h:=⟨xa,xc,x,i,rfl,H2.iz 0,(hB.fin (fun h9=>by omega) (by rw [if_neg Gj])),oz⟩)
 refine aL 19 (fun Gj=>?_) fun Gj=>?_
 exact ae 2 (h:=ck (us:=[ak 2,av Bs.zero.w0,av Bs.zero.w1,av Bs.zero.w2,av Bs.zero.w3,ak 0,ak 0]) (k:=ae 0 (h:=db aJ ([(⟨2,Bs.zero,0,0⟩:Nd)]:List Nd) H2 (k:=fun w7 H8=>cG 5 [5,4] (h:=gr 1 (h:=⟨(some ⟨w1.heap.size,0,none⟩),([(⟨2,Bs.zero,0,0⟩:Nd)]:List Nd).length,([(⟨2,Bs.zero,0,0⟩:Nd)]:List Nd),i,rfl,H8.iz 1,(hB.fin (fun h9=>by omega) (by rw [if_pos Gj];rfl)),(by simp)⟩))))))
 exact gr 11 (h:=⟨xa,xc,x,i,rfl,H2.iz 0,(hB.fin (fun h9=>by omega) (by rw [if_neg Gj])),oz⟩)
 refine aL 27 (fun Gj=>?_) fun Gj=>?_
 exact ae 2 (h:=ck (us:=[ak 2,av Bs.zero.w0,av Bs.zero.w1,av Bs.zero.w2,av Bs.zero.w3,ak 0,ak 0]) (k:=ae 0 (h:=db aJ ([(⟨2,Bs.zero,0,0⟩:Nd)]:List Nd) H2 (k:=fun w8 H9=>cG 5 [5,4] (h:=gr 1 (h:=⟨(some ⟨w1.heap.size,0,none⟩),([(⟨2,Bs.zero,0,0⟩:Nd)]:List Nd).length,([(⟨2,Bs.zero,0,0⟩:Nd)]:List Nd),i,rfl,H9.iz 1,(hB.fin (fun h9=>by omega) (by rw [if_pos Gj];rfl)),(by simp)⟩))))))
 exact gr 11 (h:=⟨xa,xc,x,i,rfl,H2.iz 0,(hB.fin (fun h9=>by omega) (by rw [if_neg Gj])),oz⟩)
theorem xJ (la:aO) (l:List Tk) (lc:Nat) (dq:Int) (at_:Nat) (N:Nat) (w:World) (rl:cd dT w la l lc) (eP:dq=((at_:Nat):Int)) (hl:l.length≤1000) (hg:dX l) (Uh:(l.getD at_ dz).kind=1∨(l.getD at_ dz).kind=3∨(l.getD at_ dz).kind=6∨(l.getD at_ dz).kind=7) (ha:at_<l.length) (hN:3*(l.length-at_)<N+1) (sT:∀(la:aO) (l:List Tk) (lc:Nat) (dq:Int) (at_:Nat) (w:World) (rl:cd dT w la l lc) (eP:dq=((at_:Nat):Int)) (hl:l.length≤1000) (hg:dX l) (yx:(dU l at_).fH=false) (ha:at_≤l.length) (cX:3*(l.length-at_)+2<N),Calls Tryz.prog 78 #[aG la l lc,ak dq] w (bj fun v w'=>∃a2 c2,∃o:List Nd,∃nx,v= .tuple #[aG a2 o c2,bJ nx]∧aE w [] w' [cg aJ 89 a2 o c2]∧(tE l at_ o nx)∧(o.length≤6*(nx-at_)+1))) (Bh:∀(la:aO) (l:List Tk) (lc:Nat) (dq:Int) (at_:Nat) (w:World) (rl:cd dT w la l lc) (eP:dq=((at_:Nat):Int)) (hl:l.length≤1000) (hg:dX l) (yx:(dU l at_).fH=false) (ha:at_≤l.length) (cX:3*(l.length-at_)+1<N),Calls Tryz.prog 95 #[aG la l lc,ak dq] w (bj fun v w'=>∃a2 c2,∃o:List Nd,∃nx,v= .tuple #[aG a2 o c2,bJ nx]∧aE w [] w' [cg aJ 89 a2 o c2]∧(GM l at_ o nx)∧(o.length≤6*(nx-at_)+1))) (XH:∀(la:aO) (l:List Tk) (lc:Nat) (dq:Int) (at_:Nat) (w:World) (rl:cd dT w la l lc) (eP:dq=((at_:Nat):Int)) (hl:l.length≤1000) (hg:dX l) (Uh:(l.getD at_ dz).kind=1∨(l.getD at_ dz).kind=3∨(l.getD at_ dz).kind=6∨(l.getD at_ dz).kind=7) (ha:at_<l.length) (cX:3*(l.length-at_)<N),Calls Tryz.prog 139 #[aG la l lc,ak dq] w (bj fun v w'=>∃a2 c2,∃o:List Nd,∃nx,v= .tuple #[aG a2 o c2,bJ nx]∧aE w [] w' [cg aJ 89 a2 o c2]∧(dW l at_ o nx)∧(o.length+3≤6*(nx-at_))∧(nx<l.length→¬(l.getD nx dz).kind=5))):
 Calls Tryz.prog 139 #[aG la l lc,ak dq] w (bj fun v w'=>∃a2 c2,∃o:List Nd,∃nx,v= .tuple #[aG a2 o c2,bJ nx]∧aE w [] w' [cg aJ 89 a2 o c2]∧(dW l at_ o nx)∧(o.length+3≤6*(nx-at_))∧(nx<l.length→¬(l.getD nx dz).kind=5)):=by
 subst eP
 have dD:=rl.le
 refine cL Tryz.func139 (h:=fun H0=>ae 14 (h:=aX (k:=?_)))
 have H1:=H0.nr aJ 89
 refine mK 3 [5,4,0] 1 H1 (fun B R L e v=>∃x:List Nd,∃xa xc i,e=(7,bJ i)::(6,aG xa x xc)::B∧aA w L v ([cg aJ 89 xa x xc]::R)∧(dW l at_ x i)∧(x.length+3≤6*(i-at_))) ?_ ?_
 refine ae 4 (h:=fI at_ (rl.at H1) (k:=ae 0 (h:=iL (rl.at H1) (k:=ae 0 (h:=nU (rl.at H1) (k:=aL 9 (fun Za=>?_) fun Za=>?_))))))
 refine ae 3 (h:=fI at_ (rl.at H1) (k:=ae 0 (h:=iL (rl.at H1) (k:=?_))))
 exact aR 0 rfl (mO at_ dz (T:=dT) (us:=[_,_,_,_]) rfl rfl rfl Tryz.underlying87 rfl Hc rfl (rl.at H1) oz rfl (ae 0 (h:=ck (k:=ae 0 (h:=db aJ ([(⟨1,(l.getD at_ dz).set,0,0⟩:Nd)]:List Nd) H1 (k:=fun w1 H2=>cy 3 (h:=by exact ⟨([(⟨1,(l.getD at_ dz).set,0,0⟩:Nd)]:List Nd),(some ⟨w.heap.size,0,none⟩),([(⟨1,(l.getD at_ dz).set,0,0⟩:Nd)]:List Nd).length,at_+1,rfl,(H2.pm [1] rfl rfl),(by first|exact dW.leaf hg ha (.inl ⟨Za,rfl⟩)|exact dW.leaf hg ha (.inr (.inl ⟨Gi,rfl⟩))|exact dW.leaf hg ha (.inr (.inr ⟨Jh,rfl⟩))|exact (dW.group hg ha oz ng).2),(by first|(simp only [List.length_singleton];omega)|(have h9:=ng.1;omega))⟩)))))))
 refine aL 6 (fun Gi=>?_) fun Gi=>?_
 exact ae 1 (h:=ck (us:=[ak 3,av Bs.zero.w0,av Bs.zero.w1,av Bs.zero.w2,av Bs.zero.w3,ak 0,ak 0]) (k:=ae 0 (h:=db aJ ([(⟨3,Bs.zero,0,0⟩:Nd)]:List Nd) H1 (k:=fun w2 H3=>cy 3 (h:=by exact ⟨([(⟨3,Bs.zero,0,0⟩:Nd)]:List Nd),(some ⟨w.heap.size,0,none⟩),([(⟨3,Bs.zero,0,0⟩:Nd)]:List Nd).length,at_+1,rfl,(H3.pm [1] rfl rfl),(by first|exact dW.leaf hg ha (.inl ⟨Za,rfl⟩)|exact dW.leaf hg ha (.inr (.inl ⟨Gi,rfl⟩))|exact dW.leaf hg ha (.inr (.inr ⟨Jh,rfl⟩))|exact (dW.group hg ha oz ng).2),(by first|(simp only [List.length_singleton];omega)|(have h9:=ng.1;omega))⟩)))))
 refine aL 6 (fun Jh=>?_) fun Jh=>?_
 exact ae 1 (h:=ck (us:=[ak 4,av Bs.zero.w0,av Bs.zero.w1,av Bs.zero.w2,av Bs.zero.w3,ak 0,ak 0]) (k:=ae 0 (h:=db aJ ([(⟨4,Bs.zero,0,0⟩:Nd)]:List Nd) H1 (k:=fun w3 H4=>cy 3 (h:=by exact ⟨([(⟨4,Bs.zero,0,0⟩:Nd)]:List Nd),(some ⟨w.heap.size,0,none⟩),([(⟨4,Bs.zero,0,0⟩:Nd)]:List Nd).length,at_+1,rfl,(H4.pm [1] rfl rfl),(by first|exact dW.leaf hg ha (.inl ⟨Za,rfl⟩)|exact dW.leaf hg ha (.inr (.inl ⟨Gi,rfl⟩))|exact dW.leaf hg ha (.inr (.inr ⟨Jh,rfl⟩))|exact (dW.group hg ha oz ng).2),(by first|(simp only [List.length_singleton];omega)|(have h9:=ng.1;omega))⟩)))))
 refine ae 4 (h:=aX (k:=ae 0 (h:=aM (c:=sT la l lc _ (at_+1) w (rl.at H1) oz hl hg (by first|exact yx|exact mS hg oz (.inr (by assumption))|exact mS hg oz (.inl oz)) oz oz) (k:=?_))))
 rintro _ w4 ⟨bN,cv,mV,eW,rfl,u4,ng,XY⟩
 have H5:=H1.ns u4
 have ab2:=ng.1
 have ab1:=ng.2.1
 have ab2:=ng.1
 have ab1:=ng.2.1
 exact ae 15 (h:=aX (k:=cy 3 (h:=by exact ⟨mV,bN,cv,eW+1,rfl,(H5.pm [1] rfl rfl),(by first|exact dW.leaf hg ha (.inl ⟨Za,rfl⟩)|exact dW.leaf hg ha (.inr (.inl ⟨Gi,rfl⟩))|exact dW.leaf hg ha (.inr (.inr ⟨Jh,rfl⟩))|exact (dW.group hg ha oz ng).2),(by first|(simp only [List.length_singleton];omega)|(have h9:=ng.1;omega))⟩)))
 rintro Γ1 w5 ⟨x,xa,xc,i,rfl,H6,hP,hz⟩
 refine cY 2 [7,6,5,4,0] (fun B R L m e v=>∃x2:List Nd,∃xa2 xc2 i2,e=(7,bJ i2)::(6,aG xa2 x2 xc2)::B∧aA w L v ([cg aJ 89 xa2 x2 xc2]::R)∧(dW l at_ x2 i2)∧(i2≤l.length)∧(x2.length+3≤6*(i2-at_))∧m=l.length-i2) (i:=⟨x,xa,xc,i,rfl,H6,qz,(by exact hP.2.1),qz,rfl⟩) (h:=?_)
 rintro m1 Γ2 w6 ⟨x2,xa2,xc2,i2,rfl,H7,K0,zB,XJ,rfl⟩
 refine bZ 8 48 (fun g90=>?_) fun g90=>?_
 refine ae 2 (h:=fI i2 (rl.at H7) (k:=ae 0 (h:=iL (rl.at H7) (k:=ae 0 (h:=nU (rl.at H7) (k:=aL 4 (fun U5=>?_) fun U5=>?_))))))
 refine eI 4 H7 (h:=fun w7 H8=>bY 3 3 (rl.at H8) (D:=fun _ hC=>fI i2 hC) (h:=bY 0 4 (rl.at H8) (D:=fun _ hC=>iL hC) (h:=bY 0 5 (rl.at H8) (D:=fun _ hC=>nU hC) (h:=bY 2 8 (rl.at H8) (D:=fun _ hC=>fI i2 hC) (h:=bY 0 9 (rl.at H8) (D:=fun _ hC=>iL hC) (h:=bY 0 10 (rl.at H8) (D:=fun _ hC=>nU hC) (h:=gZ 0 11 (D:=fun _=>ck (us:=[ak 7,av Bs.zero.w0,av Bs.zero.w1,av Bs.zero.w2,av Bs.zero.w3,ak ((l.getD i2 dz).lo),ak ((l.getD i2 dz).hi)])) (h:=c7 0 12 (D:=db aJ ([(⟨7,Bs.zero,(l.getD i2 dz).lo,(l.getD i2 dz).hi⟩:Nd)]:List Nd) H8 (k:=fun w8 H9=>?_))))))))))
 refine ⟨⟨trivial,trivial⟩,?_⟩
 refine c7 0 13 (D:=fT H9 0 (H9.rt 1) (hb:=b9) (gk:=b9) (k:=fun a1 c1 w9 ajb=>?_))
 have bO:=(ajb.drop 1).no
 refine ⟨trivial,?_⟩
 exact cG 3 [6,54,53,52,51,50,49,7,5,4,0] (h:=ae 2 (h:=aX (k:=b6 3 (h:=by exact ⟨x2++([(⟨7,Bs.zero,(l.getD i2 dz).lo,(l.getD i2 dz).hi⟩:Nd)]:List Nd),a1,c1,i2+1,rfl,(bO.re rfl),(by exact K0.rep hg oz (by assumption)),oz,(by simp only [List.length_append,List.length_singleton];have h9:=K0.1;omega),rfl⟩))))
 exact gr 11 (h:=⟨xa2,xc2,x2,i2,rfl,H7.iz 0,K0,oz,(fun h9=>by first|omega|assumption)⟩)
 exact gr 21 (h:=⟨xa2,xc2,x2,i2,rfl,H7.iz 0,K0,oz,(fun h9=>by first|omega|assumption)⟩)
theorem vS (N:Nat):(∀(la:aO) (l:List Tk) (lc:Nat) (dq:Int) (at_:Nat) (w:World) (rl:cd dT w la l lc) (eP:dq=((at_:Nat):Int)) (hl:l.length≤1000) (hg:dX l) (yx:(dU l at_).fH=false) (ha:at_≤l.length) (cX:3*(l.length-at_)+2<N),Calls Tryz.prog 78 #[aG la l lc,ak dq] w (bj fun v w'=>∃a2 c2,∃o:List Nd,∃nx,v= .tuple #[aG a2 o c2,bJ nx]∧aE w [] w' [cg aJ 89 a2 o c2]∧(tE l at_ o nx)∧(o.length≤6*(nx-at_)+1)))∧(∀(la:aO) (l:List Tk) (lc:Nat) (dq:Int) (at_:Nat) (w:World) (rl:cd dT w la l lc) (eP:dq=((at_:Nat):Int)) (hl:l.length≤1000) (hg:dX l) (yx:(dU l at_).fH=false) (ha:at_≤l.length) (cX:3*(l.length-at_)+1<N),Calls Tryz.prog 95 #[aG la l lc,ak dq] w (bj fun v w'=>∃a2 c2,∃o:List Nd,∃nx,v= .tuple #[aG a2 o c2,bJ nx]∧aE w [] w' [cg aJ 89 a2 o c2]∧(GM l at_ o nx)∧(o.length≤6*(nx-at_)+1)))∧(∀(la:aO) (l:List Tk) (lc:Nat) (dq:Int) (at_:Nat) (w:World) (rl:cd dT w la l lc) (eP:dq=((at_:Nat):Int)) (hl:l.length≤1000) (hg:dX l) (Uh:(l.getD at_ dz).kind=1∨(l.getD at_ dz).kind=3∨(l.getD at_ dz).kind=6∨(l.getD at_ dz).kind=7) (ha:at_<l.length) (cX:3*(l.length-at_)<N),Calls Tryz.prog 139 #[aG la l lc,ak dq] w (bj fun v w'=>∃a2 c2,∃o:List Nd,∃nx,v= .tuple #[aG a2 o c2,bJ nx]∧aE w [] w' [cg aJ 89 a2 o c2]∧(dW l at_ o nx)∧(o.length+3≤6*(nx-at_))∧(nx<l.length→¬(l.getD nx dz).kind=5))):=by
 induction N with
 | zero=>exact ⟨(by intro la l lc dq at_ w rl eP hl hg yx ha cX;omega),(by intro la l lc dq at_ w rl eP hl hg yx ha cX;omega),(by intro la l lc dq at_ w rl eP hl hg Uh ha cX;omega)⟩
 | succ N ih=>
 obtain ⟨sT,Bh,XH⟩:=ih
 exact ⟨(by intro la l lc dq at_ w rl eP hl hg yx ha cX;exact tX la l lc dq at_ N w rl eP hl hg yx ha cX sT Bh XH),(by intro la l lc dq at_ w rl eP hl hg yx ha cX;exact tY la l lc dq at_ N w rl eP hl hg yx ha cX sT Bh XH),(by intro la l lc dq at_ w rl eP hl hg Uh ha cX;exact xJ la l lc dq at_ N w rl eP hl hg Uh ha cX sT Bh XH)⟩
theorem EC (la:aO) (l:List Tk) (lc:Nat) (dq:Int) (at_:Nat) (w:World) (rl:cd dT w la l lc) (eP:dq=((at_:Nat):Int)) (hl:l.length≤1000) (hg:dX l) (yx:(dU l at_).fH=false) (ha:at_≤l.length):
 Calls Tryz.prog 78 #[aG la l lc,ak dq] w (bj fun v w'=>∃a2 c2,∃o:List Nd,∃nx,v= .tuple #[aG a2 o c2,bJ nx]∧aE w [] w' [cg aJ 89 a2 o c2]∧(tE l at_ o nx)∧(o.length≤6*(nx-at_)+1)):=(vS (3*(l.length-at_)+2+1)).1 la l lc dq at_ w rl eP hl hg yx ha oz
theorem Tv (la:aO) (l:List Tk) (lc:Nat) (end_:Int) (w:World) (rl:cd dT w la l lc) (hl:l.length≤1000):
 Calls Tryz.prog 50 #[aG la l lc,ak end_] w (bj fun v w'=>∃a2 c2,∃n2:Nat,∃o:List Nd,∃at_ er,v= .tuple #[.slice a2 n2 c2,ak at_,ak er]∧aE w [] w' [aj aJ (.slice a2 n2 c2) 89 o]∧(GI l end_ o at_ er)):=by
 have dD:=rl.le
 refine cL Tryz.func50 (h:=fun H0=>ae 10 (h:=aM (c:=Hl la l lc w (rl.at H0) oz) (k:=?_)))
 rintro _ w1 ⟨alm,aib,ajz,rfl,u1,T6⟩
 have H1:=H0.call u1
 refine aL 16 (fun mF=>?_) fun mF=>?_
 obtain ⟨kw,hkw,hik,Ac⟩:=WR T6 oz
 exact eI 1 H1 (h:=fun w2 H2=>bY 2 2 (rl.at H2) (D:=fun _ hC=>fI kw hC (cN:=oz)) (h:=bY 0 3 (rl.at H2) (D:=fun _ hC=>iL hC) (h:=bY 0 4 (rl.at H2) (D:=fun _ hC=>nU hC) (h:=nP 7 (h:=⟨none,0,0,[],(l.getD kw dz).pos,aib,rfl,ej H2,(Ac end_)⟩)))))
 refine aL 9 (fun RW=>?_) fun RW=>?_
 exact nP 9 (h:=⟨none,0,0,[],end_,3,rfl,ej H1,(SZ T6 oz oz end_)⟩)
 have hG:dX l:=(S0 T6 oz oz)
 refine ae 5 (h:=aM (c:=EC la l lc _ 0 w1 (rl.at H1) oz oz hG rfl oz) (k:=?_))
 rintro _ w3 ⟨bN,cv,mV,eW,rfl,u2,ng,XY⟩
 have H3:=H1.ns u2
 have jS:=tE.all hG ng
 refine aL 15 (fun aiO=>?_) fun aiO=>?_
 exact nP 8 (h:=⟨none,0,0,[],0,4,rfl,ej H3,(TI hG jS.2 oz end_)⟩)
 exact nP 11 (h:=⟨bN,cv,mV.length,mV,0,0,rfl,H3.iz 0,(aby hG jS.2 oz end_)⟩)
end Go.Proofs.YtpbgmkhmdbchpaaGreatDoor
namespace Go.Sx
theorem uY {p:Prop} (h:p:=by first|omega|(simp;omega)):p:=h
end Go.Sx
namespace Go.Proofs.YtpbgmkhmdbchpaaGreatDoor
open Go Go.Sx
theorem gA (q1I:Int) (q1:Nat) (q2I:Int) (q2:Nat) (w:World) (YN:q1I=((q1:Nat):Int)) (YM:q2I=((q2:Nat):Int)) (DG:q1<256) (M0:q2<256):
 Calls Tryz.prog 86 #[ak q1I,ak q2I] w (bj fun v w'=>v= .agg #[av (bM q1 q2).w0,av (bM q1 q2).w1,av (bM q1 q2).w2,av (bM q1 q2).w3]∧aE w [] w' []):=by
 subst YN
 subst YM
 refine cL Tryz.func86 (h:=fun H0=>ae 2 (h:=da H0 (k:=fun w1 H1=>ae 4 (h:=da H1 (k:=fun w2 H2=>?_)))))
 have H3:=H2.ps [1,0]
 refine cY 10 [6,5,4,1] (fun B R L m e v=>∃c,∃r:Bs,e=(6,bJ c)::B∧aA w L v ([bm w1.heap.size #[av r.w0,av r.w1,av r.w2,av r.w3] 87]::R)∧(q1≤c∧(c≤q2+1∨c=q1))∧(r=(List.range' q1 (c-q1)).foldl kB Bs.zero)∧m=q2+1-c) (i:=⟨q1,Bs.zero,rfl,H3,om,(by simp),rfl⟩) (h:=?_)
 rintro m1 Γ1 w3 ⟨c,r,rfl,H4,hc,hr,rfl⟩
 refine aL 8 (fun lU=>?_) fun lU=>?_
 refine ae 5 (h:=b8 (H4.b 0) (k:=ae 1 (h:=aM (c:=pe r _ c w3 oz oz) (k:=?_))))
 rintro _ w4 ⟨rfl,u3⟩
 have H5:=H4.call u3
 exact aU 0 (h:=bC H5 0 (k:=fun w5 H6=>ae 5 (h:=aX (k:=b6 2 (h:=by exact ⟨c+1,(kB r c),rfl,H6,om,(by rw [show c+1-q1=(c-q1)+1 by omega,xR,←hr,show q1+(c-q1)=c by omega]),rfl⟩)))))
 refine ae 4 (h:=b8 (H4.b 0) (k:=aU 0 (h:=bC H4 1 (k:=fun w6 H7=>nG 3 (h1:=cK (H7.b 1)) (h:=?_)))))
 have e:r=bM q1 q2:=by rw [hr];unfold bM;rw [show c-q1=q2+1-q1 by omega]
 exact ⟨(by rw [e]),H7.ag⟩
theorem L8 (a:Bs) (b:Bs) (w:World):
 Calls Tryz.prog 136 #[.agg #[av a.w0,av a.w1,av a.w2,av a.w3],.agg #[av b.w0,av b.w1,av b.w2,av b.w3],ak 0] w (bj fun v w'=>v= .agg #[av (sw a b).w0,av (sw a b).w1,av (sw a b).w2,av (sw a b).w3]∧aE w [] w' []):=by
 refine cL Tryz.func136 (h:=fun H0=>ae 2 (h:=gI H0 (k:=fun w1 H1=>ae 0 (h:=gI H1 (k:=fun w2 H2=>ae 0 (h:=da H2 (k:=fun w3 H3=>ae 4 (h:=da H3 (k:=fun w4 H4=>?_)))))))))
 have H5:=H4.ps [3,0,1,2]
 refine cY 9 [8,7,6,4,3,2] (fun B R L m e v=>∃k,∃r:Bs,e=(8,bJ k)::B∧aA w L v ([bm w3.heap.size #[av r.w0,av r.w1,av r.w2,av r.w3] 87]::R)∧(k≤256)∧(∀x,x<256→r.has x=(decide (x<k)&&(a.has x||b.has x)))∧m=256-k) (i:=⟨0,Bs.zero,rfl,H5,om,(by intro x hx;rw [eo];simp),rfl⟩) (h:=?_)
 rintro m1 Γ1 w5 ⟨k,r,rfl,H6,hk,hr,rfl⟩
 refine aL 7 (fun c29=>?_) fun c29=>?_
 refine eI 5 H6 (h:=fun w6 H7=>cP 0 0 (H7.b 1) (D:=fun _ hC=>b8 hC) (h:=cP 1 3 (H7.b 2) (D:=fun _ hC=>b8 hC) (h:=c7 1 2 (D:=aM (c:=ke a k w6 oz) (k:=?_)))))
 rintro _ w7 ⟨rfl,u5⟩
 have H8:=H7.call u5
 refine ⟨⟨trivial,(H8.b 2),trivial⟩,?_⟩
 refine c7 0 5 (D:=aM (c:=ke b k w7 oz) (k:=?_))
 rintro _ w8 ⟨rfl,u6⟩
 have H9:=H8.call u6
 refine ⟨trivial,?_⟩
 refine mK 4 [8,7,6,4,3,2] 0 H9 (fun B R L e v=>∃q:Bool,e=(49,.bool q)::B∧aA w L v (R)∧(q=(a.has k||b.has k))) ?_ ?_
 refine ik 6 25 (fun QR=>?_) fun QR=>?_
 exact cy 25 (h:=by exact ⟨true,rfl,H9,(by simp_all)⟩)
 refine ik 4 29 (fun IK=>?_) fun IK=>?_
 exact cy 21 (h:=by exact ⟨true,rfl,H9,(by simp_all)⟩)
 exact cy 21 (h:=by exact ⟨false,rfl,H9,(by simp_all)⟩)
 rintro Γ2 w9 ⟨q,rfl,bO,hq⟩
 refine cS 0 (fun wW=>?_) fun wW=>?_
 refine ae 1 (h:=b8 (bO.b 0) (k:=ae 1 (h:=aM (c:=pe r _ k w9 oz oz) (k:=?_))))
 rintro _ gK ⟨rfl,u7⟩
 have bR:=bO.call u7
 exact aU 0 (h:=bC bR 0 (k:=fun iu cm=>ae 5 (h:=aX (k:=b6 2 (h:=by exact ⟨k+1,(kB r k),rfl,cm,om,(by first|exact l5 (p:=fun x=>a.has x||b.has x) oz (by rw [←hq];exact wW) hr|exact pd (p:=fun x=>a.has x||b.has x) (by rw [←hq];simpa using wW) hr),rfl⟩)))))
 exact ae 5 (h:=aX (k:=b6 2 (h:=by exact ⟨k+1,r,rfl,bO,om,(by first|exact l5 (p:=fun x=>a.has x||b.has x) oz (by rw [←hq];exact wW) hr|exact pd (p:=fun x=>a.has x||b.has x) (by rw [←hq];simpa using wW) hr),rfl⟩)))
 refine ae 4 (h:=b8 (H6.b 0) (k:=aU 0 (h:=bC H6 3 (k:=fun iW cW=>nG 3 (h1:=cK (cW.b 3)) (h:=?_)))))
 have e:r=sw a b:=Bs.te fun x hx=>by rw [hr x hx,decide_eq_true oz,Bool.true_and,KY a b hx]
 exact ⟨(by rw [e]),cW.ag⟩
theorem L7 (a:Bs) (b:Bs) (w:World):
 Calls Tryz.prog 136 #[.agg #[av a.w0,av a.w1,av a.w2,av a.w3],.agg #[av b.w0,av b.w1,av b.w2,av b.w3],ak 2] w (bj fun v w'=>v= .agg #[av (dc (fun x=>a.has x&& !b.has x)).w0,av (dc (fun x=>a.has x&& !b.has x)).w1,av (dc (fun x=>a.has x&& !b.has x)).w2,av (dc (fun x=>a.has x&& !b.has x)).w3]∧aE w [] w' []):=by
 refine cL Tryz.func136 (h:=fun H0=>ae 2 (h:=gI H0 (k:=fun w1 H1=>ae 0 (h:=gI H1 (k:=fun w2 H2=>ae 0 (h:=da H2 (k:=fun w3 H3=>ae 4 (h:=da H3 (k:=fun w4 H4=>?_)))))))))
 have H5:=H4.ps [3,0,1,2]
 refine cY 9 [8,7,6,4,3,2] (fun B R L m e v=>∃k,∃r:Bs,e=(8,bJ k)::B∧aA w L v ([bm w3.heap.size #[av r.w0,av r.w1,av r.w2,av r.w3] 87]::R)∧(k≤256)∧(∀x,x<256→r.has x=(decide (x<k)&&(a.has x&& !b.has x)))∧m=256-k) (i:=⟨0,Bs.zero,rfl,H5,om,(by intro x hx;rw [eo];simp),rfl⟩) (h:=?_)
 rintro m1 Γ1 w5 ⟨k,r,rfl,H6,hk,hr,rfl⟩
 refine aL 7 (fun c29=>?_) fun c29=>?_
 refine eI 5 H6 (h:=fun w6 H7=>cP 0 0 (H7.b 1) (D:=fun _ hC=>b8 hC) (h:=cP 1 3 (H7.b 2) (D:=fun _ hC=>b8 hC) (h:=c7 1 2 (D:=aM (c:=ke a k w6 oz) (k:=?_)))))
 rintro _ w7 ⟨rfl,u5⟩
 have H8:=H7.call u5
 refine ⟨⟨trivial,(H8.b 2),trivial⟩,?_⟩
 refine c7 0 5 (D:=aM (c:=ke b k w7 oz) (k:=?_))
 rintro _ w8 ⟨rfl,u6⟩
 have H9:=H8.call u6
 refine ⟨trivial,?_⟩
 refine mK 4 [8,7,6,4,3,2] 0 H9 (fun B R L e v=>∃q:Bool,e=(49,.bool q)::B∧aA w L v (R)∧(q=(a.has k&& !b.has k))) ?_ ?_
 refine ik 26 45 (fun QR=>?_) fun QR=>?_
 exact cy 5 (h:=by exact ⟨!(b.has k),rfl,H9,(by simp_all)⟩)
 exact cy 5 (h:=by exact ⟨false,rfl,H9,(by simp_all)⟩)
 rintro Γ2 w9 ⟨q,rfl,bO,hq⟩
 refine cS 0 (fun wW=>?_) fun wW=>?_
 refine ae 1 (h:=b8 (bO.b 0) (k:=ae 1 (h:=aM (c:=pe r _ k w9 oz oz) (k:=?_))))
 rintro _ gK ⟨rfl,u7⟩
 have bR:=bO.call u7
 exact aU 0 (h:=bC bR 0 (k:=fun iu cm=>ae 5 (h:=aX (k:=b6 2 (h:=by exact ⟨k+1,(kB r k),rfl,cm,om,(by first|exact l5 (p:=fun x=>a.has x&& !b.has x) oz (by rw [←hq];exact wW) hr|exact pd (p:=fun x=>a.has x&& !b.has x) (by rw [←hq];simpa using wW) hr),rfl⟩)))))
 exact ae 5 (h:=aX (k:=b6 2 (h:=by exact ⟨k+1,r,rfl,bO,om,(by first|exact l5 (p:=fun x=>a.has x&& !b.has x) oz (by rw [←hq];exact wW) hr|exact pd (p:=fun x=>a.has x&& !b.has x) (by rw [←hq];simpa using wW) hr),rfl⟩)))
 refine ae 4 (h:=b8 (H6.b 0) (k:=aU 0 (h:=bC H6 3 (k:=fun iW cW=>nG 3 (h1:=cK (cW.b 3)) (h:=?_)))))
 have e:r=dc (fun x=>a.has x&& !b.has x):=Bs.te fun x hx=>by rw [hr x hx,decide_eq_true oz,Bool.true_and,ux _ hx]
 exact ⟨(by rw [e]),cW.ag⟩
theorem Es (a:Bs) (w:World):
 Calls Tryz.prog 94 #[.agg #[av a.w0,av a.w1,av a.w2,av a.w3]] w (bj fun v w'=>v= .agg #[av (gF a).w0,av (gF a).w1,av (gF a).w2,av (gF a).w3]∧aE w [] w' []):=by
 refine cL Tryz.func94 (h:=fun H0=>ae 2 (h:=gI H0 (k:=fun w1 H1=>ae 0 (h:=da H1 (k:=fun w2 H2=>eI 3 H2 (h:=fun w3 H3=>cP 0 1 (H3.b 0) (D:=fun _ hC=>b8 hC) (h:=c7 0 0 (D:=aM (c:=gA _ 0 _ 255 w3 oz oz oz oz) (k:=?_)))))))))
 rintro _ w4 ⟨rfl,u3⟩
 have H4:=H3.call u3
 refine ⟨⟨(H4.b 0),trivial⟩,?_⟩
 refine c7 0 2 (D:=aM (c:=L7 (bM 0 255) a w4) (k:=?_))
 rintro _ w5 ⟨rfl,u4⟩
 have H5:=H4.call u4
 refine ⟨trivial,?_⟩
 refine c7 0 3 (D:=bC H5 1 (k:=fun w6 H6=>?_))
 refine ⟨trivial,?_⟩
 refine nG 3 (h1:=cK (H6.b 1)) (h:=?_)
 have e:dc (fun x=>(bM 0 255).has x&& !a.has x)=gF a:=Bs.te fun x hx=>by rw [ux _ hx,QL a hx,yE dF hx,decide_eq_true oz,Bool.true_and]
 exact ⟨(by rw [e]),H6.ag⟩
theorem Hz (s:Bs) (w:World):
 Calls Tryz.prog 168 #[.agg #[av s.w0,av s.w1,av s.w2,av s.w3]] w (bj fun v w'=>∃a2,∃c2:Nat,v=aG a2 (bK s) c2∧aE w [] w' [cg fh 5 a2 (bK s) c2]):=by
 refine cL Tryz.func168 (h:=fun H0=>ae 2 (h:=gI H0 (k:=fun w1 H1=>?_)))
 have H2:=H1.nr fh 5
 have H3:=H2.ps [1,0]
 refine cY 15 [4,3,2,1] (fun B R L m e v=>∃k,∃o:List Nat,∃a c,e=(4,bJ k)::(3,aG a o c)::B∧aA w L v ([cg fh 5 a o c]::R)∧(k≤256)∧(o=(List.range k).filter s.has)∧(o.length≤k)∧m=256-k) (i:=⟨0,([]:List Nat),none,0,rfl,H3,om,rfl,(by simp),rfl⟩) (h:=?_)
 rintro m1 Γ1 w2 ⟨k,o,a,c,rfl,H4,hk,ho,GR,rfl⟩
 refine aL 7 (fun Zh=>?_) fun Zh=>?_
 refine ae 6 (h:=b8 (H4.b 1) (k:=ae 1 (h:=aM (c:=ke s k w2 oz) (k:=?_))))
 rintro _ w3 ⟨rfl,u2⟩
 have H5:=H4.call u2
 refine cS 2 (fun DK=>?_) fun DK=>?_
 refine ae 3 (h:=kT (k:=ae 0 (h:=db fh [k] H5 (k:=fun w4 H6=>ae 0 (h:=fT H6 0 (H6.rt 2) (k:=fun a1 c1 w5 Vt=>?_))))))
 have H7:=(Vt.drop 2).no
 exact ae 6 (h:=aX (k:=b6 2 (h:=by exact ⟨k+1,o++[k],a1,c1,rfl,(H7.re rfl),om,(by rw [ho,List.range_succ,List.filter_append];simp [DK]),uY,rfl⟩)))
 exact ae 5 (h:=aX (k:=b6 2 (h:=by exact ⟨k+1,o,a,c,rfl,H5,om,(by rw [ho,List.range_succ,List.filter_append];simp [DK]),uY,rfl⟩)))
 refine bE 9 (h:=?_)
 have e:o=bK s:=by rw [ho,show k=256 by omega];rfl
 rw [e] at H4
 exact ⟨a,c,(by rw [e]),(by have hh:=H4.iz 0;exact hh)⟩
theorem pb (c:Nat) (w:World) (hc:c<256):
 Calls Tryz.prog 138 #[.int .u8 ((c:Nat):Int)] w (bj fun v w'=>v=ak (ee c)∧aE w [] w' []):=by
 refine cL Tryz.func138 (h:=fun H0=>bZ 11 5 (fun g17=>?_) fun g17=>?_)
 refine aL 5 (fun Wu=>?_) fun Wu=>?_
 exact aR 3 rfl (lP rfl rfl oz oz (ae 0 (h:=kT (k:=bE 4 (h:=⟨(by unfold ee;rw [if_pos oz]),H0.ag⟩)))))
 refine bZ 8 14 (fun g20=>?_) fun g20=>?_
 refine aL 5 (fun lU=>?_) fun lU=>?_
 exact aR 3 rfl (lP rfl rfl oz oz (ae 0 (h:=kT (k:=ae 0 (h:=aX (k:=bE 4 (h:=⟨(by unfold ee;rw [if_neg oz];rw [if_pos oz]),H0.ag⟩)))))))
 refine bZ 8 24 (fun g23=>?_) fun g23=>?_
 refine aL 5 (fun uJ=>?_) fun uJ=>?_
 exact aR 3 rfl (lP rfl rfl oz oz (ae 0 (h:=kT (k:=ae 0 (h:=aX (k:=bE 4 (h:=⟨(by unfold ee;rw [if_neg oz];rw [if_neg oz];rw [if_pos oz]),H0.ag⟩)))))))
 exact bE 8 (h:=⟨(by unfold ee;rw [if_neg oz];rw [if_neg oz];rw [if_neg oz]),H0.ag⟩)
 exact bE 14 (h:=⟨(by unfold ee;rw [if_neg oz];rw [if_neg oz];rw [if_neg oz]),H0.ag⟩)
 refine bZ 14 24 (fun g23=>?_) fun g23=>?_
 refine aL 5 (fun uJ=>?_) fun uJ=>?_
 exact aR 3 rfl (lP rfl rfl oz oz (ae 0 (h:=kT (k:=ae 0 (h:=aX (k:=bE 4 (h:=⟨(by unfold ee;rw [if_neg oz];rw [if_neg oz];rw [if_pos oz]),H0.ag⟩)))))))
 exact bE 8 (h:=⟨(by unfold ee;rw [if_neg oz];rw [if_neg oz];rw [if_neg oz]),H0.ag⟩)
 exact bE 14 (h:=⟨(by unfold ee;rw [if_neg oz];rw [if_neg oz];rw [if_neg oz]),H0.ag⟩)
 refine bZ 14 14 (fun g20=>?_) fun g20=>?_
 refine aL 5 (fun lU=>?_) fun lU=>?_
 exact aR 3 rfl (lP rfl rfl oz oz (ae 0 (h:=kT (k:=ae 0 (h:=aX (k:=bE 4 (h:=⟨(by unfold ee;rw [if_neg oz];rw [if_pos oz]),H0.ag⟩)))))))
 refine bZ 8 24 (fun g23=>?_) fun g23=>?_
 refine aL 5 (fun uJ=>?_) fun uJ=>?_
 exact aR 3 rfl (lP rfl rfl oz oz (ae 0 (h:=kT (k:=ae 0 (h:=aX (k:=bE 4 (h:=⟨(by unfold ee;rw [if_neg oz];rw [if_neg oz];rw [if_pos oz]),H0.ag⟩)))))))
 exact bE 8 (h:=⟨(by unfold ee;rw [if_neg oz];rw [if_neg oz];rw [if_neg oz]),H0.ag⟩)
 exact bE 14 (h:=⟨(by unfold ee;rw [if_neg oz];rw [if_neg oz];rw [if_neg oz]),H0.ag⟩)
 refine bZ 14 24 (fun g23=>?_) fun g23=>?_
 refine aL 5 (fun uJ=>?_) fun uJ=>?_
 exact aR 3 rfl (lP rfl rfl oz oz (ae 0 (h:=kT (k:=ae 0 (h:=aX (k:=bE 4 (h:=⟨(by unfold ee;rw [if_neg oz];rw [if_neg oz];rw [if_pos oz]),H0.ag⟩)))))))
 exact bE 8 (h:=⟨(by unfold ee;rw [if_neg oz];rw [if_neg oz];rw [if_neg oz]),H0.ag⟩)
 exact bE 14 (h:=⟨(by unfold ee;rw [if_neg oz];rw [if_neg oz];rw [if_neg oz]),H0.ag⟩)
theorem o7 (s:Bs) (nx:Int) (ok:Bool) (nm:Bool) (w:World):
 Calls Tryz.prog 135 #[.agg #[av s.w0,av s.w1,av s.w2,av s.w3,ak nx,.bool ok,.bool nm]] w (bj fun v w'=>v=ak (jO s nm)∧aE w [] w' []):=by
 refine cL Tryz.func135 (h:=fun H0=>ae 2 (h:=gI H0 (k:=fun w1 H1=>ae 6 (h:=b8 (H1.b 0) (k:=ae 0 (h:=aM (c:=Hz s w1) (k:=?_)))))))
 rintro _ w2 ⟨bN,cv,rfl,u2⟩
 have H2:=H1.ns u2
 refine ae 7 (h:=aH (H2.b 0) (k:=ik 1 9 (fun g40=>?_) fun g40=>?_))
 refine bE 13 (h:=?_)
 have e:jO s nm= -1:=by unfold jO uh;first|(rw [if_pos g40];done)|rw [if_neg g40,if_neg oz]
 exact ⟨(by rw [e]),H2.ag⟩
 refine aL 6 (fun RL=>?_) fun RL=>?_
 refine bE 6 (h:=?_)
 have e:jO s nm= -1:=by unfold jO uh;first|(rw [if_pos g40];done)|rw [if_neg g40,if_neg oz]
 exact ⟨(by rw [e]),H2.ag⟩
 have Uf:=BE (s:=s) oz
 refine ae 5 (h:=bU 0 (H2.rt 1) (k:=ae 0 (h:=cn (H2.rt 1) (k:=ae 0 (h:=kT (h:=(by exact kU Uf)) (k:=bE 4 (h:=?_)))))))
 have e:jO s nm=(((bK s).getD 0 0:Nat):Int):=by unfold jO uh;rw [if_neg g40,if_pos oz]
 exact ⟨(by rw [e]),H2.ag⟩
theorem KT (c:Nat) (w:World) (hc:c<256):
 Calls Tryz.prog 143 #[.int .u8 ((c:Nat):Int)] w (bj fun v w'=>v= .tuple #[.int .u8 ((dG c:Nat):Int),.bool (eg c)]∧aE w [] w' []):=by
 refine cL Tryz.func143 (h:=fun H0=>bZ 13 7 (fun g25=>?_) fun g25=>?_)
 refine aL 6 (fun Gp=>?_) fun Gp=>?_
 refine aR 3 rfl (lP rfl rfl oz oz (gr 5 (h:=?_)))
 have e:((dG c:Nat):Int)=(c:Int)-48:=by unfold dG;rw [if_pos oz];omega
 have e2:eg c=true:=by unfold eg;rw [decide_eq_true_eq];omega
 exact ⟨(by rw [e,e2]),H0.ag⟩
 refine aR 3 rfl (n9 (m:=c) oz rfl rfl (bZ 2 17 (fun Uu=>?_) fun Uu=>?_))
 refine aR 1 rfl (n9 (m:=c) oz rfl rfl (aL 5 (fun C8=>?_) fun C8=>?_))
 refine aR 3 rfl (n9 (m:=c) oz rfl rfl ?_)
 refine aR 0 rfl (lP rfl rfl oz oz ?_)
 refine aR 0 rfl (mf _ rfl rfl rfl (gr 5 (h:=?_)))
 have e:((dG c:Nat):Int)=((c|||32:Nat):Int)-97+10:=by unfold dG;rw [if_neg oz,if_pos oz];omega
 have e2:eg c=true:=by unfold eg;rw [decide_eq_true_eq];omega
 exact ⟨(by rw [e,e2,wrap_u8' oz oz]),H0.ag⟩
 refine gr 10 (h:=?_)
 have e:dG c=0:=by unfold dG;rw [if_neg oz,if_neg oz]
 have e2:eg c=false:=by unfold eg;rw [decide_eq_false_iff_not];omega
 exact ⟨(by rw [e,e2];rfl),H0.ag⟩
 refine gr 18 (h:=?_)
 have e:dG c=0:=by unfold dG;rw [if_neg oz,if_neg oz]
 have e2:eg c=false:=by unfold eg;rw [decide_eq_false_iff_not];omega
 exact ⟨(by rw [e,e2];rfl),H0.ag⟩
 refine aR 10 rfl (n9 (m:=c) oz rfl rfl (bZ 2 17 (fun Uu=>?_) fun Uu=>?_))
 refine aR 1 rfl (n9 (m:=c) oz rfl rfl (aL 5 (fun C8=>?_) fun C8=>?_))
 refine aR 3 rfl (n9 (m:=c) oz rfl rfl ?_)
 refine aR 0 rfl (lP rfl rfl oz oz ?_)
 refine aR 0 rfl (mf _ rfl rfl rfl (gr 5 (h:=?_)))
 have e:((dG c:Nat):Int)=((c|||32:Nat):Int)-97+10:=by unfold dG;rw [if_neg oz,if_pos oz];omega
 have e2:eg c=true:=by unfold eg;rw [decide_eq_true_eq];omega
 exact ⟨(by rw [e,e2,wrap_u8' oz oz]),H0.ag⟩
 refine gr 10 (h:=?_)
 have e:dG c=0:=by unfold dG;rw [if_neg oz,if_neg oz]
 have e2:eg c=false:=by unfold eg;rw [decide_eq_false_iff_not];omega
 exact ⟨(by rw [e,e2];rfl),H0.ag⟩
 refine gr 18 (h:=?_)
 have e:dG c=0:=by unfold dG;rw [if_neg oz,if_neg oz]
 have e2:eg c=false:=by unfold eg;rw [decide_eq_false_iff_not];omega
 exact ⟨(by rw [e,e2];rfl),H0.ag⟩
theorem uN (c:Nat) (nx:Int) (w:World) (hc:c<256):
 Calls Tryz.prog 144 #[.int .u8 ((c:Nat):Int),ak nx] w (bj fun v w'=>v= .agg #[av (gU [c]).w0,av (gU [c]).w1,av (gU [c]).w2,av (gU [c]).w3,bJ c,ak nx]∧aE w [] w' []):=by
 refine cL Tryz.func144 (h:=fun H0=>ae 2 (h:=da H0 (k:=fun w1 H1=>ae 5 (h:=db fh [c] H1 (k:=fun w2 H2=>ae 0 (h:=aM (c:=nR _ [c] _ ([c].length) w2 (H2.rt 1) (by intro x hx;simp at hx;omega)) (k:=?_)))))))
 rintro _ w3 ⟨rfl,u3⟩
 have H3:=H2.call u3
 exact ae 1 (h:=kT (k:=ae 1 (h:=ck (k:=aU 0 (h:=bC H3 0 (k:=fun w4 H4=>nG 3 (h1:=cK (H4.b 0)) (h:=⟨rfl,H4.ag⟩)))))))
open Go Go.Sx Go.RowKit
structure Laid (w:World):Prop where
  ml:∃m,w.cell? ⟨1,0,none⟩=some (.int .i64 m)
theorem Laid.below {w w':World} (h:Laid w) (b:Below w.heap.size w w'):Laid w':=by
  obtain ⟨m,hm⟩:=h.ml
  have lt:∀ {g:Nat} {v:Value},w.cell? ⟨g,0,none⟩=some v→g<w.heap.size:=fun {g v} hc=>World.block_lt_of_cell? w ⟨g,0,none⟩ hc
  exact ⟨⟨m,(b.cell (lt hm)).trans hm⟩⟩
theorem Laid.at {w w':World} {G:List (List Chunk)} (h:Laid w) (u:aA w [] w' G):Laid w':=h.below u.oG.below
theorem O5 {f:FuncId} {args:Array Value} {w:World} {Q:Ending→World→Prop} {R:Value→World→Prop} (h:Calls Tryz.prog f args w Q) (k:∀e w',Q e w'→∃v,e= .returned v∧R v w'):Calls Tryz.prog f args w (bj R):=h.mono k
theorem T9 (s:ByteArray) (w:World):Calls Tryz.prog 192 #[.string s,.string ⟨#[91,58]⟩] w (bj fun v w'=>v= .bool (hpN s)∧aE w [] w' []):=by
  refine O5 (Tryz.strings_HasPrefix s ⟨#[91,58]⟩ w) ?_
  rintro e w' ⟨rfl,rfl⟩
  exact ⟨_,rfl,rfl,aE.nil _⟩
theorem RC (s:ByteArray) (w:World) (lw:Laid w) (hs:s.size≤1000000):Calls Tryz.prog 193 #[.string s,.string ⟨#[58,93]⟩] w (bj fun v w'=>v= .tuple #[.string (oe s),.string (aif s),.bool (RB s)]∧aE w [] w' []):=by
  obtain ⟨m,hm⟩:=lw.ml
  refine O5 (Tryz.strings_Cut s ⟨#[58,93]⟩ m w oz hm) ?_
  rintro e w' ⟨rfl,n,rfl⟩
  exact ⟨_,rfl,rfl,BQ ⟨rfl,rfl,rfl,Nat.le_refl _,fun j hj=>rfl⟩⟩
theorem HB (q1I:Int) (q1:Nat) (q2I:Int) (q2:Nat) (w:World) (YN:q1I=((q1:Nat):Int)) (YM:q2I=((q2:Nat):Int)) (DG:q1<256) (M0:q2<256):
    Calls Tryz.prog 172 #[.int .u8 q1I,.int .u8 q2I] w (bj fun v w'=>v= .agg #[.int .u64 (((bM q1 q2).w0.toNat:Nat):Int),.int .u64 (((bM q1 q2).w1.toNat:Nat):Int),.int .u64 (((bM q1 q2).w2.toNat:Nat):Int),.int .u64 (((bM q1 q2).w3.toNat:Nat):Int)]∧aE w [] w' []):=by
  subst YN;subst YM;exact A2 q1 q2 w DG M0
theorem K4 (p:ByteArray) (aI:Int) (a:Nat) (w:World) (rT:cd fh w (some ⟨0,0,none⟩) rG 64) (uB:aI=((a:Nat):Int)) (hp:p.size≤200) (ha:a<p.size):
 Calls Tryz.prog 99 #[.string p,ak aI] w (bj fun v w'=>∃x:Bs,∃on nx,∃ok:Bool,v= .tuple #[.agg #[av x.w0,av x.w1,av x.w2,av x.w3,ak on,ak nx],.bool ok]∧aE w [] w' []∧(Is (fP p a) ok (Aq (some on) x nx))∧(0≤nx∧nx≤1000∧ -1≤on∧on≤255)):=by
 subst uB
 have kH:=rT.le
 refine cL Tryz.func99 (h:=fun H0=>ae 2 (h:=da H0 (k:=fun w1 H1=>?_)))
 have KW:=cV p (a+1)
 have zB:=cV p (a+2)
 have Uo:=cV p (a+3)
 have NO:=uv p (a+2)
 have hx3:=uv p (a+3)
 refine ae 7 (h:=aX (k:=aL 5 (fun c35=>?_) fun c35=>?_))
 exact ae 2 (h:=ck (us:=[av Bs.zero.w0,av Bs.zero.w1,av Bs.zero.w2,av Bs.zero.w3,ak 0,ak 0]) (k:=aU 0 (h:=bC H1 0 (k:=fun w2 H2=>fx 4 (h1:=cK (H2.b 0)) (h2:=cZ) (h:=⟨Bs.zero,0,0,false,rfl,H2.ag,(Is.no (Bw oz)),oz⟩)))))
 have KW:=cV p (a+1)
 have zB:=cV p (a+2)
 have Uo:=cV p (a+3)
 have NO:=uv p (a+2)
 have hx3:=uv p (a+3)
 refine ae 7 (h:=aX (k:=ae 0 (h:=kn (a+1) (k:=aL 3 (fun tp=>?_) fun tp=>?_))))
 refine ae 4 (h:=aX (k:=aL 5 (fun wV=>?_) fun wV=>?_))
 exact ae 2 (h:=ck (us:=[av Bs.zero.w0,av Bs.zero.w1,av Bs.zero.w2,av Bs.zero.w3,ak 0,ak 0]) (k:=aU 0 (h:=bC H1 0 (k:=fun w3 H3=>fx 4 (h1:=cK (H3.b 0)) (h2:=cZ) (h:=⟨Bs.zero,0,0,false,rfl,H3.ag,(Is.no (F4 oz oz)),oz⟩)))))
 refine ae 6 (h:=aX (k:=ae 0 (h:=kn (a+2) (k:=ae 0 (h:=aM (c:=KT (bn p (a+2)) w1 (cV _ _)) (k:=?_))))))
 rintro _ w4 ⟨rfl,u4⟩
 have H4:=H1.call u4
 refine ae 11 (h:=aX (k:=ae 0 (h:=kn (a+3) (k:=ae 0 (h:=aM (c:=KT (bn p (a+3)) w4 (cV _ _)) (k:=?_))))))
 rintro _ w5 ⟨rfl,u5⟩
 have H5:=H4.call u5
 refine cG 7 [9,8,7,6,5,4,1] (h:=?_)
 refine aR 3 rfl (UM (dG (bn p (a+2))) oz rfl rfl ?_)
 refine aR 1 rfl (YW (dG (bn p (a+2))) (dG (bn p (a+3))) oz oz rfl rfl (ae 1 (h:=aX (k:=ae 0 (h:=aM (c:=uN ((dG (bn p (a+2)))*16+(dG (bn p (a+3)))) _ w5 oz) (k:=?_))))))
 rintro _ w6 ⟨rfl,u6⟩
 have H6:=H5.call u6
 refine ik 2 54 (fun g44=>?_) fun g44=>?_
 exact aU 2 (h:=bC H6 0 (k:=fun w7 H7=>fx 4 (h1:=cK (H7.b 0)) (h2:=cZ) (h:=⟨(gU [((dG (bn p (a+2)))*16+(dG (bn p (a+3))))]),((((dG (bn p (a+2)))*16+(dG (bn p (a+3)))):Nat):Int),((a:Nat):Int)+4,eg (bn p (a+3)),rfl,H7.ag,(by have h9:=K5 (p:=p) (a:=a) (x:=gU [dG (bn p (a+2))*16+dG (bn p (a+3))]) (nx:=(a:Int)+4) (on:=((dG (bn p (a+2))*16+dG (bn p (a+3)):Nat):Int)) oz oz rfl rfl rfl;revert h9;simp_all),oz⟩)))
 exact aU 2 (h:=bC H6 0 (k:=fun w8 H8=>fx 4 (h1:=cK (H8.b 0)) (h2:=cZ) (h:=⟨(gU [((dG (bn p (a+2)))*16+(dG (bn p (a+3))))]),((((dG (bn p (a+2)))*16+(dG (bn p (a+3)))):Nat):Int),((a:Nat):Int)+4,false,rfl,H8.ag,(by have h9:=K5 (p:=p) (a:=a) (x:=gU [dG (bn p (a+2))*16+dG (bn p (a+3))]) (nx:=(a:Int)+4) (on:=((dG (bn p (a+2))*16+dG (bn p (a+3)):Nat):Int)) oz oz rfl rfl rfl;revert h9;simp_all),oz⟩)))
 refine ae 6 (h:=aX (k:=ae 0 (h:=kn (a+1) (k:=ae 0 (h:=aM (c:=UG (bn p (a+1)) w1 (cV _ _)) (k:=?_))))))
 rintro _ w9 ⟨rfl,u9⟩
 have H9:=H1.call u9
 refine ae 3 (h:=da H9 (k:=fun gK bO=>aU 0 (h:=bC bO 1 (k:=fun iu bR=>ae 6 (h:=b8 (bR.b 1) (k:=ae 0 (h:=aM (c:=BD ((dm (bn p (a+1))).1) iu (rT.at bR)) (k:=?_))))))))
 rintro _ iW ⟨bN,cv,rfl,xh⟩
 have cm:=bR.ns xh
 refine aL 10 (fun DJ=>?_) fun DJ=>?_
 have Uf:=BE (s:=(dm (bn p (a+1))).1) oz
 refine ae 3 (h:=bU 0 (cm.rt 2) (k:=ae 0 (h:=cn (cm.rt 2) (k:=ae 1 (h:=aX (k:=ae 0 (h:=aM (c:=uN ((bK ((dm (bn p (a+1))).1)).getD 0 0) _ iW oz) (k:=?_))))))))
 rintro _ iV ⟨rfl,BS⟩
 have cW:=cm.call BS
 exact aU 1 (h:=bC cW 0 (k:=fun lT cH=>cG 3 [5,4] (h:=fx 1 (h1:=cK (cH.b 0)) (h2:=cZ) (h:=⟨(gU [((bK ((dm (bn p (a+1))).1)).getD 0 0)]),((((bK ((dm (bn p (a+1))).1)).getD 0 0):Nat):Int),((a:Nat):Int)+2,(dm (bn p (a+1))).2,rfl,cH.ag,(Q2 oz oz oz rfl rfl rfl),oz⟩))))
 exact ae 4 (h:=b8 (cm.b 1) (k:=ae 1 (h:=aX (k:=ae 0 (h:=ck (k:=aU 1 (h:=bC cm 0 (k:=fun qx cI=>cG 3 [5,4] (h:=fx 1 (h1:=cK (cI.b 0)) (h2:=cZ) (h:=⟨((dm (bn p (a+1))).1),-1,((a:Nat):Int)+2,(dm (bn p (a+1))).2,rfl,cI.ag,(Q3 oz oz oz rfl rfl rfl),oz⟩))))))))))
theorem xy (p:ByteArray) (aI:Int) (a:Nat) (w:World) (rT:cd fh w (some ⟨0,0,none⟩) rG 64) (uB:aI=((a:Nat):Int)) (lw:Laid w) (hp:p.size≤200) (ha:a<p.size):
 Calls Tryz.prog 171 #[.string p,ak aI] w (bj fun v w'=>∃x:Bs,∃on nx,∃ok:Bool,v= .tuple #[.agg #[av x.w0,av x.w1,av x.w2,av x.w3,ak on,ak nx],.bool ok]∧aE w [] w' []∧(Is (eA p a) ok (nF (some on) none x nx))∧(0≤nx∧nx≤1000∧ -1≤on∧on≤255)):=by
 subst uB
 have kH:=rT.le
 refine cL Tryz.func171 (h:=fun H0=>ae 2 (h:=da H0 (k:=fun w1 H1=>?_)))
 have GX:=cV p a
 refine ae 9 (h:=kn a (k:=aL 4 (fun c56=>?_) fun c56=>?_))
 refine ae 4 (h:=aM (c:=K4 _ _ a w1 (rT.at H1) oz oz oz) (k:=?_))
 rintro _ w2 ⟨oN,vU,eW,gT,rfl,u2,oH,sU⟩
 have H2:=H1.call u2
 exact aU 2 (h:=bC H2 0 (k:=fun w3 H3=>fx 4 (h1:=cK (H3.b 0)) (h2:=cZ) (h:=⟨oN,vU,eW,gT,rfl,H3.ag,((Eh oz oH).mono fun q hq=>hq.LB),oz⟩)))
 refine aR 4 rfl (uE ((a:Nat):Int) ((p.size:Nat):Int) a p.size Tryz.underlying9 rfl rfl rfl (.inr ⟨_,rfl⟩) (.inl ⟨rfl,rfl⟩) oz oz ⟨by omega,by omega,by omega⟩ (ae 0 (h:=aM (c:=T9 _ w1) (k:=?_))))
 rintro _ w4 ⟨rfl,u4⟩
 have H4:=H1.call u4
 refine cS 3 (fun Gm=>?_) fun Gm=>?_
 have Fz:named p a=true:=by rw [←Bk oz];exact Gm
 have Fy:=iN Fz
 have DF:(p.extract (a+2) p.size).size≤200:=by rw [ByteArray.size_extract];omega
 have hcs:=No (p.extract (a+2) p.size)
 refine ae 4 (h:=aX (k:=?_))
 refine aR 0 rfl (uE (((a:Nat):Int)+2) ((p.size:Nat):Int) (a+2) p.size Tryz.underlying9 rfl rfl rfl (.inr ⟨_,rfl⟩) (.inl ⟨rfl,rfl⟩) oz oz ⟨by omega,by omega,by omega⟩ (ae 0 (h:=aM (c:=RC _ w4 (lw.at H4) oz) (k:=?_))))
 rintro _ w5 ⟨rfl,u5⟩
 have H5:=H4.call u5
 refine ae 12 (h:=aM (c:=BC _ w5) (k:=?_))
 rintro _ w6 ⟨rfl,u6⟩
 have H6:=H5.call u6
 refine ae 3 (h:=da H6 (k:=fun w7 H7=>aU 0 (h:=bC H7 1 (k:=fun w8 H8=>cG 3 [10,9,8,6,5,4,1] (h:=ae 2 (h:=b8 (H8.b 1) (k:=ae 3 (h:=aX (k:=ae 0 (h:=aX (k:=ae 0 (h:=ck (k:=ik 2 48 (fun g61=>?_) fun g61=>?_)))))))))))))
 exact aU 2 (h:=bC H8 0 (k:=fun w9 H9=>fx 4 (h1:=cK (H9.b 0)) (h2:=cZ) (h:=⟨(cA (oe (p.extract (a+2) p.size))),-1,(((a:Nat):Int)+(((oe (p.extract (a+2) p.size)).size:Nat):Int))+4,fY (oe (p.extract (a+2) p.size)),rfl,H9.ag,(by have h9:=Ei (p:=p) (a:=a) (x:=cA (oe (p.extract (a+2) p.size))) (nx:=(a:Int)+(oe (p.extract (a+2) p.size)).size+4) (on:= -1) Fz rfl rfl rfl;revert h9;simp_all),oz⟩)))
 exact aU 2 (h:=bC H8 0 (k:=fun gK bO=>fx 4 (h1:=cK (bO.b 0)) (h2:=cZ) (h:=⟨(cA (oe (p.extract (a+2) p.size))),-1,(((a:Nat):Int)+(((oe (p.extract (a+2) p.size)).size:Nat):Int))+4,false,rfl,bO.ag,(by have h9:=Ei (p:=p) (a:=a) (x:=cA (oe (p.extract (a+2) p.size))) (nx:=(a:Int)+(oe (p.extract (a+2) p.size)).size+4) (on:= -1) Fz rfl rfl rfl;revert h9;simp_all),oz⟩)))
 have Fz:¬named p a=true:=by rw [←Bk oz];exact Gm
 refine ae 7 (h:=kn a (k:=ae 1 (h:=aX (k:=ae 0 (h:=aM (c:=uN (bn p a) _ w4 (cV _ _)) (k:=?_))))))
 rintro _ iu ⟨rfl,zJ⟩
 have bR:=H4.call zJ
 exact aU 0 (h:=bC bR 0 (k:=fun iW cm=>fx 4 (h1:=cK (cm.b 0)) (h2:=cZ) (h:=⟨(gU [(bn p a)]),(((bn p a):Nat):Int),((a:Nat):Int)+1,true,rfl,cm.ag,((AS oz Fz rfl (fun o ho=>by cases ho;rfl) rfl).mono fun q hq=>hq.LB),oz⟩)))
theorem PC (p:ByteArray) (aI:Int) (a:Nat) (w:World) (rT:cd fh w (some ⟨0,0,none⟩) rG 64) (uB:aI=((a:Nat):Int)) (lw:Laid w) (hp:p.size≤200) (ha:a<p.size):
 Calls Tryz.prog 141 #[.string p,ak aI] w (bj fun v w'=>∃x:Bs,∃on nx,∃ok:Bool,v= .tuple #[.agg #[av x.w0,av x.w1,av x.w2,av x.w3,ak on,ak nx],.bool ok]∧aE w [] w' []∧(Is (kb p a) ok (Dz x nx))∧(0≤nx∧nx≤1000∧ -1≤on∧on≤255)):=by
 subst uB
 have kH:=rT.le
 refine cL Tryz.func141 (h:=fun H0=>ae 2 (h:=da H0 (k:=fun w1 H1=>ae 7 (h:=aM (c:=xy _ _ a w1 (rT.at H1) oz (lw.at H1) oz oz) (k:=?_)))))
 rintro _ w2 ⟨oN,vU,eW,gT,rfl,u2,CF,sU⟩
 have H2:=H1.call u2
 refine ae 3 (h:=da H2 (k:=fun w3 H3=>aU 0 (h:=bC H3 1 (k:=fun w4 H4=>ik 9 17 (fun K1=>?_) fun K1=>?_))))
 exact cG 29 [44,7,6,5,4,0] (h:=ae 3 (h:=b8 (H4.b 1) (k:=aU 1 (h:=bC H4 0 (k:=fun w5 H5=>fx 4 (h1:=cK (H5.b 0)) (h2:=cZ) (h:=⟨oN,vU,eW,gT,rfl,H5.ag,(lf CF (by first|(intro h9 h8;omega)|(intro h9;rw [h9] at K1;cases K1))),oz⟩))))))
 refine ae 1 (h:=aH (H4.b 1) (k:=bZ 3 22 (fun ahw=>?_) fun ahw=>?_))
 exact cG 24 [44,7,6,5,4,0] (h:=ae 3 (h:=b8 (H4.b 1) (k:=aU 1 (h:=bC H4 0 (k:=fun w6 H6=>fx 4 (h1:=cK (H6.b 0)) (h2:=cZ) (h:=⟨oN,vU,eW,gT,rfl,H6.ag,(lf CF (by first|(intro h9 h8;omega)|(intro h9;rw [h9] at K1;cases K1))),oz⟩))))))
 refine ae 1 (h:=aH (H4.b 1) (k:=ae 0 (h:=aX (k:=bZ 5 30 (fun ac1=>?_) fun ac1=>?_))))
 exact cG 16 [44,7,6,5,4,0] (h:=ae 3 (h:=b8 (H4.b 1) (k:=aU 1 (h:=bC H4 0 (k:=fun w7 H7=>fx 4 (h1:=cK (H7.b 0)) (h2:=cZ) (h:=⟨oN,vU,eW,gT,rfl,H7.ag,(lf CF (by first|(intro h9 h8;omega)|(intro h9;rw [h9] at K1;cases K1))),oz⟩))))))
 refine ae 2 (h:=aH (H4.b 1) (k:=ae 0 (h:=kn eW.toNat (cN:=oz) (k:=bZ 3 37 (fun Yn=>?_) fun Yn=>?_))))
 exact cG 9 [44,7,6,5,4,0] (h:=ae 3 (h:=b8 (H4.b 1) (k:=aU 1 (h:=bC H4 0 (k:=fun w8 H8=>fx 4 (h1:=cK (H8.b 0)) (h2:=cZ) (h:=⟨oN,vU,eW,gT,rfl,H8.ag,(lf CF (by first|(intro h9 h8;omega)|(intro h9;rw [h9] at K1;cases K1))),oz⟩))))))
 refine ae 2 (h:=aH (H4.b 1) (k:=ae 0 (h:=aX (k:=ae 0 (h:=kn ((eW+1).toNat) (cN:=oz) (k:=cG 4 [44,7,6,5,4,0] (h:=aL 0 (fun Ji=>?_) fun Ji=>?_)))))))
 exact ae 2 (h:=b8 (H4.b 1) (k:=aU 1 (h:=bC H4 0 (k:=fun w9 H9=>fx 4 (h1:=cK (H9.b 0)) (h2:=cZ) (h:=⟨oN,vU,eW,gT,rfl,H9.ag,(lf CF (by first|(intro h9 h8;omega)|(intro h9;rw [h9] at K1;cases K1))),oz⟩)))))
 have yw:Is (eA p a) true (nF (some vU) none oN eW):=(show gT=true by simpa using K1)▸CF
 refine ae 6 (h:=aH (H4.b 1) (k:=ae 0 (h:=aX (k:=ae 0 (h:=aM (c:=xy _ _ ((eW+1).toNat) w4 (rT.at H4) oz (lw.at H4) oz oz) (k:=?_))))))
 rintro _ gK ⟨Sz,abt,Cg,EW,rfl,qZ,IB,agA⟩
 have bO:=H4.call qZ
 refine ae 3 (h:=da bO (k:=fun iu bR=>aU 0 (h:=bC bR 2 (k:=fun iW cm=>ik 9 57 (fun Wm=>?_) fun Wm=>?_))))
 refine ae 11 (h:=ck (us:=[av Bs.zero.w0,av Bs.zero.w1,av Bs.zero.w2,av Bs.zero.w3,ak 0,ak 0]) (k:=aU 0 (h:=bC cm 0 (k:=fun iV cW=>fx 4 (h1:=cK (cW.b 0)) (h2:=cZ) (h:=?_)))))
 have e2:=sv yw ⟨by omega,by omega,by omega,by omega⟩ IB
 first|rw [if_pos (by simpa using Wm),if_pos oz] at e2|rw [if_neg (by simpa using Wm)] at e2
 exact ⟨Bs.zero,0,0,false,rfl,cW.ag,(Is.no e2),oz⟩
 refine ae 1 (h:=aH (cm.b 2) (k:=ae 1 (h:=aH (cm.b 1) (k:=aL 4 (fun U7=>?_) fun U7=>?_))))
 refine ae 2 (h:=ck (us:=[av Bs.zero.w0,av Bs.zero.w1,av Bs.zero.w2,av Bs.zero.w3,ak 0,ak 0]) (k:=aU 0 (h:=bC cm 0 (k:=fun lT cH=>fx 4 (h1:=cK (cH.b 0)) (h2:=cZ) (h:=?_)))))
 have e2:=sv yw ⟨by omega,by omega,by omega,by omega⟩ IB
 first|rw [if_pos (by simpa using Wm),if_pos oz] at e2|rw [if_neg (by simpa using Wm)] at e2
 exact ⟨Bs.zero,0,0,false,rfl,cH.ag,(Is.no e2),oz⟩
 refine eI 3 cm (h:=fun qx cI=>cP 1 1 (cI.b 1) (D:=fun _ hC=>aH hC) (h:=gZ 0 2 (D:=fun _=>kT) (h:=cP 1 4 (cI.b 2) (D:=fun _ hC=>aH hC) (h:=gZ 0 5 (D:=fun _=>kT) (h:=cP 1 8 (cI.b 2) (D:=fun _ hC=>aH hC) (h:=c7 0 6 (D:=aM (c:=HB _ vU.toNat _ abt.toNat qx oz oz oz oz) (k:=?_))))))))
 rintro _ qw ⟨rfl,Oj⟩
 have cT:=cI.call Oj
 refine ⟨⟨(cT.b 2),trivial,trivial⟩,?_⟩
 refine gZ 0 9 (D:=fun _=>ck) (h:=c7 0 10 (D:=bC cT 0 (k:=fun uW dj=>?_)))
 refine ⟨trivial,?_⟩
 refine cG 3 [5,4] (h:=fx 1 (h1:=cK (dj.b 0)) (h2:=cZ) (h:=?_))
 have e2:=sv yw ⟨by omega,by omega,by omega,by omega⟩ IB
 rw [if_pos (by simpa using Wm),if_neg oz] at e2
 exact ⟨(bM vU.toNat abt.toNat),-1,Cg,true,rfl,dj.ag,(Is.yes e2 ⟨rfl,by simp;omega⟩),oz⟩
theorem Gs (p:ByteArray) (aI:Int) (a:Nat) (w:World) (rT:cd fh w (some ⟨0,0,none⟩) rG 64) (uB:aI=((a:Nat):Int)) (lw:Laid w) (hp:p.size≤200) (ha:a<p.size):
 Calls Tryz.prog 97 #[.string p,ak aI] w (bj fun v w'=>∃x:Bs,∃nx,∃ok:Bool,v= .tuple #[.agg #[av (x).w0,av (x).w1,av (x).w2,av (x).w3],ak nx,.bool ok]∧aE w [] w' []∧(∃r,uV p a r∧Is r ok (Dz x nx))):=by
 subst uB
 have wM:=BG ha
 have kH:=rT.le
 refine cL Tryz.func97 (h:=fun H0=>ae 2 (h:=da H0 (k:=fun w1 H1=>ae 7 (h:=aX (k:=mK 3 [7,6,5,4,0] 0 H1 (fun B R L e v=>∃nt:Bool,e=(8,.bool nt)::B∧aA w L v (R)∧(nt=oI p a)) ?_ ?_)))))
 refine bZ 6 18 (fun g82=>?_) fun g82=>?_
 exact ae 2 (h:=kn (a+1) (k:=cy 4 (h:=by exact ⟨decide (((bn p (a+1):Nat):Int)=(94:Int)),rfl,H1,(by unfold oI;rw [Bool.eq_iff_iff];simp only [Bool.and_eq_true,decide_eq_true_eq,Bool.false_eq_true,false_iff,true_iff];omega)⟩)))
 exact cy 7 (h:=by exact ⟨false,rfl,H1,(by unfold oI;rw [Bool.eq_iff_iff];simp only [Bool.and_eq_true,decide_eq_true_eq,Bool.false_eq_true,false_iff,true_iff];omega)⟩)
 rintro Γ1 w2 ⟨nt,rfl,H2,Uc⟩
 refine mK 0 [8,6,5,4,0] 0 H2 (fun B R L e v=>∃iI,e=(7,ak iI)::B∧aA w L v (R)∧(iI=fS p a)) ?_ ?_
 refine cS 5 (fun Jh=>?_) fun Jh=>?_
 exact ae 2 (h:=aX (k:=cy 2 (h:=by exact ⟨(((a:Nat):Int)+1)+1,rfl,H2,(by unfold fS;rw [←Uc];first|rw [if_pos Jh];omega|rw [if_neg Jh];omega)⟩)))
 exact cy 1 (h:=by exact ⟨((a:Nat):Int)+1,rfl,H2,(by unfold fS;rw [←Uc];first|rw [if_pos Jh];omega|rw [if_neg Jh];omega)⟩)
 rintro Γ2 w3 ⟨iI,rfl,H3,hif⟩
 refine ae 2 (h:=da H3 (k:=fun w4 H4=>?_))
 have H5:=H4.ps [1,0]
 refine mK 2 [9,8,6,5,4,0] 1 H5 (fun B R L e v=>∃iI,∃r:Bs,e=(7,ak iI)::B∧aA w L v ([bm w3.heap.size #[av r.w0,av r.w1,av r.w2,av r.w3] 87]::R)∧(0≤iI∧iI≤p.size)∧(∀q,wj p iI.toNat r q→wj p (fS p a) Bs.zero q)∧(iI<p.size→bn p iI.toNat=93)) ?_ ?_
 refine cY 1 [7,9,8,6,5,4,0] (fun B R L m e v=>∃iI,∃r:Bs,e=(7,ak iI)::B∧aA w L v ([bm w3.heap.size #[av r.w0,av r.w1,av r.w2,av r.w3] 87]::R)∧(0≤iI∧iI≤p.size)∧(∀q,wj p iI.toNat r q→wj p (fS p a) Bs.zero q)∧m=p.size-iI.toNat) (i:=⟨iI,Bs.zero,rfl,H5,oz,(by rw [hif];exact fun q h=>h),rfl⟩) (h:=?_)
 rintro m1 Γ3 w5 ⟨yu,r,rfl,H6,hi0,hI,rfl⟩
 refine bZ 8 31 (fun g87=>?_) fun g87=>?_
 refine ae 2 (h:=kn yu.toNat (cN:=oz) (k:=aL 4 (fun c87=>?_) fun c87=>?_))
 refine ae 7 (h:=aM (c:=PC _ _ yu.toNat w5 (rT.at H6) oz (lw.at H6) oz oz) (k:=?_))
 rintro _ w6 ⟨oN,vU,eW,gT,rfl,u3,ab4,sU⟩
 have H7:=H6.call u3
 refine ae 3 (h:=da H7 (k:=fun w7 H8=>aU 0 (h:=bC H8 2 (k:=fun w8 H9=>cS 10 (fun c89=>?_) fun c89=>?_))))
 exact ae 2 (h:=b8 (H9.b 0) (k:=aU 0 (h:=bC H9 1 (k:=fun w9 bO=>vT 5 (h1:=cK (bO.b 1)) (h2:=cZ) (h3:=cZ) (h:=⟨_,0,false,rfl,bO.ag,(wY hI oz oz (ab4.f (by rw [show gT=false by simpa using c89];decide)))⟩)))))
 obtain ⟨⟨px,pn⟩,hpf,hpx,V4⟩:=ab4.t (by simpa using c89)
 have hpr:=ug oz hpf
 simp only at hpx V4
 refine eI 2 H9 (h:=fun gK bR=>cP 0 0 (bR.b 0) (D:=fun _ hC=>b8 hC) (h:=cP 1 2 (bR.b 2) (D:=fun _ hC=>b8 hC) (h:=cP 1 5 (bR.b 2) (D:=fun _ hC=>aH hC) (h:=c7 0 3 (D:=aM (c:=Cb r oN gK) (k:=?_))))))
 rintro _ iu ⟨rfl,u7⟩
 have cm:=bR.call u7
 refine ⟨⟨(cm.b 2),trivial,trivial⟩,?_⟩
 refine c7 0 6 (D:=bC cm 0 (k:=fun iW cW=>?_))
 refine ⟨⟨(cW.b 2),trivial,trivial⟩,?_⟩
 exact b6 3 (h:=by exact ⟨eW,(sw r oN),rfl,(cW.pm [0,1] rfl rfl),oz,(by intro q h;refine hI q (.step oz oz hpf ?_);rw [←hpx,show pn=eW.toNat by omega];exact h),rfl⟩)
 exact cy 1 (h:=by exact ⟨yu,r,rfl,H6,oz,qz,oz⟩)
 exact cy 9 (h:=by exact ⟨yu,r,rfl,H6,oz,qz,oz⟩)
 rintro Γ4 iV ⟨T4,r_1,rfl,cH,hi0,hI,X8⟩
 refine cS 6 (fun y5=>?_) fun y5=>?_
 refine ae 1 (h:=b8 (cH.b 0) (k:=ae 0 (h:=aM (c:=p9 r_1 iV) (k:=?_))))
 rintro _ lT ⟨rfl,u9⟩
 have cI:=cH.call u9
 exact aU 0 (h:=bC cI 0 (k:=fun qx cT=>ae 4 (h:=b8 (cT.b 0) (k:=ae 1 (h:=aX (k:=aU 4 (h:=bC cT 1 (k:=fun qw dj=>vT 5 (h1:=cK (dj.b 1)) (h2:=cZ) (h3:=cZ) (h:=⟨_,T4+1,decide (T4<((p.size:Nat):Int)),rfl,dj.ag,(wX hI oz (by simp only [decide_eq_true_eq];omega) (by unfold y7;rw [←Uc];first|rw [if_pos y5]|rw [if_neg y5]) oz)⟩)))))))))
 exact ae 4 (h:=b8 (cH.b 0) (k:=ae 1 (h:=aX (k:=aU 4 (h:=bC cH 1 (k:=fun uW dY=>vT 5 (h1:=cK (dY.b 1)) (h2:=cZ) (h3:=cZ) (h:=⟨_,T4+1,decide (T4<((p.size:Nat):Int)),rfl,dY.ag,(wX hI oz (by simp only [decide_eq_true_eq];omega) (by unfold y7;rw [←Uc];first|rw [if_pos y5]|rw [if_neg y5]) oz)⟩)))))))
theorem vq (p:ByteArray) (aI:Int) (a:Nat) (w:World) (uB:aI=((a:Nat):Int)) (hp:p.size≤200) (ha:a≤p.size):
 Calls Tryz.prog 140 #[.string p,ak aI] w (bj fun v w'=>v= .tuple #[bJ (dZ p a (kD p a)),bJ (a+kD p a),.bool (cD p a)]∧aE w [] w' []):=by
 subst uB
 refine cL Tryz.func140 (h:=fun H0=>cY 15 [5,4,6,0,1] (fun B R L m e v=>∃k:Nat,∃nI,e=(5,bJ (a+k))::(4,ak nI)::B∧aA w L v (R)∧(k≤kD p a)∧(nI=(dZ p a k:Nat))∧m=3-k) (i:=⟨0,0,rfl,H0,(by exact Nat.zero_le _),rfl,rfl⟩) (h:=?_))
 rintro m1 Γ1 w1 ⟨k,nI,rfl,H1,hk,hn,rfl⟩
 have hvs:=jE hk
 have Ac:=cV p (a+k)
 refine mK 1 [5,4,6,0,1] 0 H1 (fun B R L e v=>∃q:Bool,e=(29,.bool q)::B∧aA w L v (R)∧(q=(decide (k<3)&&wS p (a+k)))) ?_ ?_
 refine bZ 6 12 (fun ah6=>?_) fun ah6=>?_
 refine ae 2 (h:=kn (a+k) (k:=bZ 3 18 (fun adr=>?_) fun adr=>?_))
 refine ae 2 (h:=kn (a+k) (k:=bZ 3 24 (fun YG=>?_) fun YG=>?_))
 exact ae 2 (h:=aX (k:=cy 3 (h:=by exact ⟨decide (((a+k:Nat):Int)<(((a:Nat):Int)+3)),rfl,H1,(by unfold wS;rw [Bool.eq_iff_iff];simp only [Bool.and_eq_true,decide_eq_true_eq,Bool.false_eq_true,false_iff,true_iff];omega)⟩)))
 exact cy 6 (h:=by exact ⟨false,rfl,H1,(by unfold wS;rw [Bool.eq_iff_iff];simp only [Bool.and_eq_true,decide_eq_true_eq,Bool.false_eq_true,false_iff,true_iff];omega)⟩)
 exact cy 12 (h:=by exact ⟨false,rfl,H1,(by unfold wS;rw [Bool.eq_iff_iff];simp only [Bool.and_eq_true,decide_eq_true_eq,Bool.false_eq_true,false_iff,true_iff];omega)⟩)
 exact cy 18 (h:=by exact ⟨false,rfl,H1,(by unfold wS;rw [Bool.eq_iff_iff];simp only [Bool.and_eq_true,decide_eq_true_eq,Bool.false_eq_true,false_iff,true_iff];omega)⟩)
 rintro Γ2 w2 ⟨q,rfl,H2,hq⟩
 refine cS 0 (fun RW=>?_) fun RW=>?_
 have hgo:=VU hk hq RW
 refine ae 6 (h:=GP (k:=ae 2 (h:=kn (a+k) (k:=?_))))
 exact aR 0 rfl (lP rfl rfl oz oz (ae 0 (h:=kT (k:=ae 0 (h:=aX (k:=ae 5 (h:=aX (k:=b6 3 (h:=by exact ⟨k+1,(10*nI)+(((bn p (a+k):Nat):Int)-48),rfl,H2,(by exact hgo.1),(by rw [hn];simp only [dZ];omega),rfl⟩)))))))))
 refine mK 2 [5,4] 0 H2 (fun B R L e v=>∃q2:Bool,e=(6,.bool q2)::B∧aA w L v (R)∧(k=kD p a)∧(q2=cD p a)) ?_ ?_
 have v7:=Qm hk hq RW
 have GX:=cV p a
 have h0d:0<k→a<p.size:=fun h9=>by have h8:=wR (uo (p:=p) (a:=a) (k:=0) oz);omega
 refine bZ 7 45 (fun ah5=>?_) fun ah5=>?_
 refine bZ 4 49 (fun adq=>?_) fun adq=>?_
 refine ae 2 (h:=kn a (k:=bZ 2 54 (fun YF=>?_) fun YF=>?_))
 exact cy 10 (h:=by exact ⟨true,rfl,H2,(by exact v7),(by unfold cD;rw [←v7];rw [Bool.eq_iff_iff];simp only [Bool.and_eq_true,decide_eq_true_eq,Bool.false_eq_true,false_iff,true_iff];omega)⟩)
 exact ae 2 (h:=aX (k:=cy 7 (h:=by exact ⟨decide (((a+k:Nat):Int)=(((a:Nat):Int)+1)),rfl,H2,(by exact v7),(by unfold cD;rw [←v7];rw [Bool.eq_iff_iff];simp only [Bool.and_eq_true,decide_eq_true_eq,Bool.false_eq_true,false_iff,true_iff];omega)⟩)))
 exact cy 15 (h:=by exact ⟨false,rfl,H2,(by exact v7),(by unfold cD;rw [←v7];rw [Bool.eq_iff_iff];simp only [Bool.and_eq_true,decide_eq_true_eq,Bool.false_eq_true,false_iff,true_iff];omega)⟩)
 exact cy 19 (h:=by exact ⟨false,rfl,H2,(by exact v7),(by unfold cD;rw [←v7];rw [Bool.eq_iff_iff];simp only [Bool.and_eq_true,decide_eq_true_eq,Bool.false_eq_true,false_iff,true_iff];omega)⟩)
 rintro Γ3 w3 ⟨q2,rfl,H3,v7,zx⟩
 exact nP 1 (h:=⟨(by rw [hn,zx,←v7];try rfl),H3.ag⟩)
theorem Ht (p:ByteArray) (aI:Int) (a:Nat) (w:World) (uB:aI=((a:Nat):Int)) (hp:p.size≤200) (ha:a<p.size):
 Calls Tryz.prog 96 #[.string p,ak aI] w (bj fun v w'=>∃lo hi nx,∃ok:Bool,v= .tuple #[ak lo,ak hi,ak nx,.bool ok]∧aE w [] w' []∧(Is (iF p a) ok (Dx lo hi nx))):=by
 subst uB
 refine cL Tryz.func96 (h:=fun H0=>ae 12 (h:=aX (k:=ae 0 (h:=aM (c:=vq _ _ (a+1) w oz oz oz) (k:=?_)))))
 rintro _ w1 ⟨rfl,u1⟩
 have H1:=H0.call u1
 have hv1:=jE (Nat.le_refl (kD p (a+1)))
 have SM:=Fm (p:=p) (a:=a+1) oz
 have ag3:=Be p (a+1)
 refine ik 15 19 (fun jW=>?_) fun jW=>?_
 exact NL 17 (h:=⟨0,0,0,false,rfl,H1.ag,(Is.no (xN (by first|exact .inl (by simpa using jW)|exact .inr oz)))⟩)
 refine aL 7 (fun Zs=>?_) fun Zs=>?_
 exact NL 9 (h:=⟨0,0,0,false,rfl,H1.ag,(Is.no (xN (by first|exact .inl (by simpa using jW)|exact .inr oz)))⟩)
 refine ae 13 (h:=kn ((a+1)+kD p (a+1)) (k:=aL 3 (fun RU=>?_) fun RU=>?_))
 refine ae 3 (h:=aX (k:=bZ 15 36 (fun ah0=>?_) fun ah0=>?_))
 refine ae 2 (h:=kn (((a+1)+kD p (a+1))+1) (k:=cG 4 [41,5,8,7,4,6,0] (h:=aL 0 (fun oo=>?_) fun oo=>?_)))
 have hv2:=jE (Nat.le_refl (kD p (a+1+kD p (a+1)+1)))
 have tK:=Fm (p:=p) (a:=a+1+kD p (a+1)+1) oz
 refine ae 4 (h:=aM (c:=vq _ _ (((a+1)+kD p (a+1))+1) w1 oz oz oz) (k:=?_))
 rintro _ w2 ⟨rfl,u2⟩
 have H2:=H1.call u2
 have hv2:=jE (Nat.le_refl (kD p (a+1+kD p (a+1)+1)))
 have tK:=Fm (p:=p) (a:=a+1+kD p (a+1)+1) oz
 refine ik 14 51 (fun uA=>?_) fun uA=>?_
 exact NL 16 (h:=⟨0,0,0,false,rfl,H2.ag,(Is.no (xO oz (by first|exact .inl (by simpa using uA)|exact .inr oz) oz))⟩)
 refine aL 6 (fun Dd=>?_) fun Dd=>?_
 exact NL 9 (h:=⟨0,0,0,false,rfl,H2.ag,(Is.no (xO oz (by first|exact .inl (by simpa using uA)|exact .inr oz) oz))⟩)
 refine eI 3 H2 (h:=fun w3 H3=>gZ 3 3 (D:=fun _=>aX) (h:=Ps 5 64 (fun IN=>?_) fun IN=>?_))
 exact gZ 2 11 (D:=fun _=>kn ((((a+1)+kD p (a+1))+1)+kD p (((a+1)+kD p (a+1))+1))) (h:=cG 8 [7,6,5,4] (h:=NL 1 (h:=⟨((dZ p (a+1) (kD p (a+1)):Nat):Int),((dZ p (((a+1)+kD p (a+1))+1) (kD p (((a+1)+kD p (a+1))+1)):Nat):Int),(((((a+1)+kD p (a+1))+1)+kD p (((a+1)+kD p (a+1))+1):Nat):Int)+1,decide (((bn p ((((a+1)+kD p (a+1))+1)+kD p (((a+1)+kD p (a+1))+1)):Nat):Int)=(125:Int)),rfl,H3.ag,(by first|exact o9 (show cD p (a+1)=true by simpa using jW) oz oz (by first|(simp only [decide_eq_true_eq];omega)|(simp only [Bool.false_eq_true,false_iff];omega)) rfl rfl rfl|exact o8 (show cD p (a+1)=true by simpa using jW) oz oz oz (by first|(simp only [decide_eq_true_eq];omega)|(simp only [Bool.false_eq_true,false_iff];omega)) rfl rfl rfl|exact oE (show cD p (a+1)=true by simpa using jW) oz oz oz (by simpa using uA) oz (by first|(simp only [decide_eq_true_eq];omega)|(simp only [Bool.false_eq_true,false_iff];omega)) rfl rfl rfl)⟩)))
 exact cG 11 [7,6,5,4] (h:=NL 1 (h:=⟨((dZ p (a+1) (kD p (a+1)):Nat):Int),((dZ p (((a+1)+kD p (a+1))+1) (kD p (((a+1)+kD p (a+1))+1)):Nat):Int),(((((a+1)+kD p (a+1))+1)+kD p (((a+1)+kD p (a+1))+1):Nat):Int)+1,false,rfl,H3.ag,(by first|exact o9 (show cD p (a+1)=true by simpa using jW) oz oz (by first|(simp only [decide_eq_true_eq];omega)|(simp only [Bool.false_eq_true,false_iff];omega)) rfl rfl rfl|exact o8 (show cD p (a+1)=true by simpa using jW) oz oz oz (by first|(simp only [decide_eq_true_eq];omega)|(simp only [Bool.false_eq_true,false_iff];omega)) rfl rfl rfl|exact oE (show cD p (a+1)=true by simpa using jW) oz oz oz (by simpa using uA) oz (by first|(simp only [decide_eq_true_eq];omega)|(simp only [Bool.false_eq_true,false_iff];omega)) rfl rfl rfl)⟩))
 refine eI 3 H1 (h:=fun w4 H4=>gZ 3 3 (D:=fun _=>aX) (h:=Ps 5 64 (fun IN=>?_) fun IN=>?_))
 exact gZ 2 11 (D:=fun _=>kn (((a+1)+kD p (a+1))+1)) (h:=NL 9 (h:=⟨((dZ p (a+1) (kD p (a+1)):Nat):Int),-1,((((a+1)+kD p (a+1):Nat):Int)+1)+1,decide (((bn p (((a+1)+kD p (a+1))+1):Nat):Int)=(125:Int)),rfl,H4.ag,(by first|exact o9 (show cD p (a+1)=true by simpa using jW) oz oz (by first|(simp only [decide_eq_true_eq];omega)|(simp only [Bool.false_eq_true,false_iff];omega)) rfl rfl rfl|exact o8 (show cD p (a+1)=true by simpa using jW) oz oz oz (by first|(simp only [decide_eq_true_eq];omega)|(simp only [Bool.false_eq_true,false_iff];omega)) rfl rfl rfl|exact oE (show cD p (a+1)=true by simpa using jW) oz oz oz (by simpa using uA) oz (by first|(simp only [decide_eq_true_eq];omega)|(simp only [Bool.false_eq_true,false_iff];omega)) rfl rfl rfl)⟩))
 exact NL 12 (h:=⟨((dZ p (a+1) (kD p (a+1)):Nat):Int),-1,((((a+1)+kD p (a+1):Nat):Int)+1)+1,false,rfl,H4.ag,(by first|exact o9 (show cD p (a+1)=true by simpa using jW) oz oz (by first|(simp only [decide_eq_true_eq];omega)|(simp only [Bool.false_eq_true,false_iff];omega)) rfl rfl rfl|exact o8 (show cD p (a+1)=true by simpa using jW) oz oz oz (by first|(simp only [decide_eq_true_eq];omega)|(simp only [Bool.false_eq_true,false_iff];omega)) rfl rfl rfl|exact oE (show cD p (a+1)=true by simpa using jW) oz oz oz (by simpa using uA) oz (by first|(simp only [decide_eq_true_eq];omega)|(simp only [Bool.false_eq_true,false_iff];omega)) rfl rfl rfl)⟩)
 refine cG 7 [41,5,8,7,4,6,0] (h:=eI 4 H1 (h:=fun w5 H5=>gZ 3 3 (D:=fun _=>aX) (h:=Ps 5 64 (fun IN=>?_) fun IN=>?_)))
 exact gZ 2 11 (D:=fun _=>kn (((a+1)+kD p (a+1))+1)) (h:=NL 9 (h:=⟨((dZ p (a+1) (kD p (a+1)):Nat):Int),-1,((((a+1)+kD p (a+1):Nat):Int)+1)+1,decide (((bn p (((a+1)+kD p (a+1))+1):Nat):Int)=(125:Int)),rfl,H5.ag,(by first|exact o9 (show cD p (a+1)=true by simpa using jW) oz oz (by first|(simp only [decide_eq_true_eq];omega)|(simp only [Bool.false_eq_true,false_iff];omega)) rfl rfl rfl|exact o8 (show cD p (a+1)=true by simpa using jW) oz oz oz (by first|(simp only [decide_eq_true_eq];omega)|(simp only [Bool.false_eq_true,false_iff];omega)) rfl rfl rfl|exact oE (show cD p (a+1)=true by simpa using jW) oz oz oz (by simpa using uA) oz (by first|(simp only [decide_eq_true_eq];omega)|(simp only [Bool.false_eq_true,false_iff];omega)) rfl rfl rfl)⟩))
 exact NL 12 (h:=⟨((dZ p (a+1) (kD p (a+1)):Nat):Int),-1,((((a+1)+kD p (a+1):Nat):Int)+1)+1,false,rfl,H5.ag,(by first|exact o9 (show cD p (a+1)=true by simpa using jW) oz oz (by first|(simp only [decide_eq_true_eq];omega)|(simp only [Bool.false_eq_true,false_iff];omega)) rfl rfl rfl|exact o8 (show cD p (a+1)=true by simpa using jW) oz oz oz (by first|(simp only [decide_eq_true_eq];omega)|(simp only [Bool.false_eq_true,false_iff];omega)) rfl rfl rfl|exact oE (show cD p (a+1)=true by simpa using jW) oz oz oz (by simpa using uA) oz (by first|(simp only [decide_eq_true_eq];omega)|(simp only [Bool.false_eq_true,false_iff];omega)) rfl rfl rfl)⟩)
 refine eI 3 H1 (h:=fun w6 H6=>gZ 3 3 (D:=fun _=>aX) (h:=Ps 5 64 (fun IN=>?_) fun IN=>?_))
 exact gZ 2 11 (D:=fun _=>kn ((a+1)+kD p (a+1))) (h:=cG 8 [7,6,5,4] (h:=NL 1 (h:=⟨((dZ p (a+1) (kD p (a+1)):Nat):Int),((dZ p (a+1) (kD p (a+1)):Nat):Int),(((a+1)+kD p (a+1):Nat):Int)+1,decide (((bn p ((a+1)+kD p (a+1)):Nat):Int)=(125:Int)),rfl,H6.ag,(by first|exact o9 (show cD p (a+1)=true by simpa using jW) oz oz (by first|(simp only [decide_eq_true_eq];omega)|(simp only [Bool.false_eq_true,false_iff];omega)) rfl rfl rfl|exact o8 (show cD p (a+1)=true by simpa using jW) oz oz oz (by first|(simp only [decide_eq_true_eq];omega)|(simp only [Bool.false_eq_true,false_iff];omega)) rfl rfl rfl|exact oE (show cD p (a+1)=true by simpa using jW) oz oz oz (by simpa using uA) oz (by first|(simp only [decide_eq_true_eq];omega)|(simp only [Bool.false_eq_true,false_iff];omega)) rfl rfl rfl)⟩)))
 exact cG 11 [7,6,5,4] (h:=NL 1 (h:=⟨((dZ p (a+1) (kD p (a+1)):Nat):Int),((dZ p (a+1) (kD p (a+1)):Nat):Int),(((a+1)+kD p (a+1):Nat):Int)+1,false,rfl,H6.ag,(by first|exact o9 (show cD p (a+1)=true by simpa using jW) oz oz (by first|(simp only [decide_eq_true_eq];omega)|(simp only [Bool.false_eq_true,false_iff];omega)) rfl rfl rfl|exact o8 (show cD p (a+1)=true by simpa using jW) oz oz oz (by first|(simp only [decide_eq_true_eq];omega)|(simp only [Bool.false_eq_true,false_iff];omega)) rfl rfl rfl|exact oE (show cD p (a+1)=true by simpa using jW) oz oz oz (by simpa using uA) oz (by first|(simp only [decide_eq_true_eq];omega)|(simp only [Bool.false_eq_true,false_iff];omega)) rfl rfl rfl)⟩))
theorem LL (p:ByteArray) (aI:Int) (a:Nat) (w:World) (rT:cd fh w (some ⟨0,0,none⟩) rG 64) (uB:aI=((a:Nat):Int)) (lw:Laid w) (hp:p.size≤200) (ha:a<p.size):
 Calls Tryz.prog 79 #[.string p,ak aI] w (bj fun v w'=>∃t:Tk,∃nx,∃ok:Bool,v= .tuple #[.agg #[ak t.kind,ak t.pos,av t.set.w0,av t.set.w1,av t.set.w2,av t.set.w3,ak t.lo,ak t.hi],ak nx,.bool ok]∧aE w [] w' []∧(fZ p a t nx ok)):=by
 subst uB
 have kH:=rT.le
 refine cL Tryz.func79 (h:=fun H0=>ae 2 (h:=da H0 (k:=fun w1 H1=>ae 7 (h:=ck (us:=[ak 0,bJ a,av Bs.zero.w0,av Bs.zero.w1,av Bs.zero.w2,av Bs.zero.w3,ak 0,ak 0]) (k:=aU 0 (h:=bC H1 0 (k:=fun w2 H2=>ae 5 (h:=aX (k:=?_)))))))))
 have GX:=cV p a
 refine ae 9 (h:=kn a (k:=aL 9 (fun aiL=>?_) fun aiL=>?_))
 exact aU 2 (h:=jA H2 0 (k:=fun w3 H3=>ae 5 (h:=b8 (H3.b 0) (k:=aU 2 (h:=bC H3 0 (k:=fun w4 H4=>vT 5 (h1:=cK (H4.b 0)) (h2:=cZ) (h3:=cZ) (h:=⟨(⟨2,((a:Nat):Int),Bs.zero,0,0⟩:Tk),((a:Nat):Int)+1,true,rfl,H4.ag,(dC oz (by unfold jG;(repeat (first|rw [if_pos oz]|rw [if_neg oz]));exact ⟨rfl,rfl,rfl⟩))⟩)))))))
 refine aL 6 (fun nD=>?_) fun nD=>?_
 exact aU 2 (h:=jA H2 0 (k:=fun w5 H5=>ae 5 (h:=b8 (H5.b 0) (k:=aU 2 (h:=bC H5 0 (k:=fun w6 H6=>vT 5 (h1:=cK (H6.b 0)) (h2:=cZ) (h3:=cZ) (h:=⟨(⟨3,((a:Nat):Int),Bs.zero,0,0⟩:Tk),((a:Nat):Int)+1,true,rfl,H6.ag,(dC oz (by unfold jG;(repeat (first|rw [if_pos oz]|rw [if_neg oz]));exact ⟨rfl,rfl,rfl⟩))⟩)))))))
 refine aL 6 (fun aiK=>?_) fun aiK=>?_
 exact aU 2 (h:=jA H2 0 (k:=fun w7 H7=>ae 5 (h:=b8 (H7.b 0) (k:=aU 2 (h:=bC H7 0 (k:=fun w8 H8=>vT 5 (h1:=cK (H8.b 0)) (h2:=cZ) (h3:=cZ) (h:=⟨(⟨4,((a:Nat):Int),Bs.zero,0,0⟩:Tk),((a:Nat):Int)+1,true,rfl,H8.ag,(dC oz (by unfold jG;(repeat (first|rw [if_pos oz]|rw [if_neg oz]));exact ⟨rfl,rfl,rfl⟩))⟩)))))))
 refine aL 6 (fun Jj=>?_) fun Jj=>?_
 exact aU 2 (h:=jA H2 0 (k:=fun w9 H9=>ae 5 (h:=b8 (H9.b 0) (k:=aU 2 (h:=bC H9 0 (k:=fun gK bO=>vT 5 (h1:=cK (bO.b 0)) (h2:=cZ) (h3:=cZ) (h:=⟨(⟨6,((a:Nat):Int),Bs.zero,0,0⟩:Tk),((a:Nat):Int)+1,true,rfl,bO.ag,(dC oz (by unfold jG;(repeat (first|rw [if_pos oz]|rw [if_neg oz]));exact ⟨rfl,rfl,rfl⟩))⟩)))))))
 refine aL 6 (fun aiJ=>?_) fun aiJ=>?_
 exact aU 2 (h:=jA H2 0 (k:=fun iu bR=>ae 5 (h:=b8 (bR.b 0) (k:=aU 2 (h:=bC bR 0 (k:=fun iW cm=>vT 5 (h1:=cK (cm.b 0)) (h2:=cZ) (h3:=cZ) (h:=⟨(⟨7,((a:Nat):Int),Bs.zero,0,0⟩:Tk),((a:Nat):Int)+1,true,rfl,cm.ag,(dC oz (by unfold jG;(repeat (first|rw [if_pos oz]|rw [if_neg oz]));exact ⟨rfl,rfl,rfl⟩))⟩)))))))
 refine aL 6 (fun RR=>?_) fun RR=>?_
 exact aU 2 (h:=jA H2 0 (k:=fun iV cW=>aU 1 (h:=jA cW 0 (k:=fun lT cH=>ae 5 (h:=b8 (cH.b 0) (k:=aU 2 (h:=bC cH 0 (k:=fun qx cI=>vT 5 (h1:=cK (cI.b 0)) (h2:=cZ) (h3:=cZ) (h:=⟨(⟨5,((a:Nat):Int),Bs.zero,0,-1⟩:Tk),((a:Nat):Int)+1,true,rfl,cI.ag,(dC oz (by unfold jG;(repeat (first|rw [if_pos oz]|rw [if_neg oz]));exact ⟨rfl,rfl,rfl⟩))⟩)))))))))
 refine aL 6 (fun aiG=>?_) fun aiG=>?_
 exact aU 2 (h:=jA H2 0 (k:=fun qw cT=>aU 1 (h:=jA cT 0 (k:=fun uW dj=>aU 1 (h:=jA dj 0 (k:=fun zI dY=>ae 5 (h:=b8 (dY.b 0) (k:=aU 2 (h:=bC dY 0 (k:=fun zo eJ=>cG 4 [6,5,4] (h:=vT 1 (h1:=cK (eJ.b 0)) (h2:=cZ) (h3:=cZ) (h:=⟨(⟨5,((a:Nat):Int),Bs.zero,1,-1⟩:Tk),((a:Nat):Int)+1,true,rfl,eJ.ag,(dC oz (by unfold jG;(repeat (first|rw [if_pos oz]|rw [if_neg oz]));exact ⟨rfl,rfl,rfl⟩))⟩))))))))))))
 refine aL 6 (fun RQ=>?_) fun RQ=>?_
 exact aU 2 (h:=jA H2 0 (k:=fun DV dB=>aU 1 (h:=jA dB 0 (k:=fun Od gu=>ae 5 (h:=b8 (gu.b 0) (k:=aU 2 (h:=bC gu 0 (k:=fun LD gQ=>cG 4 [6,5,4] (h:=vT 1 (h1:=cK (gQ.b 0)) (h2:=cZ) (h3:=cZ) (h:=⟨(⟨5,((a:Nat):Int),Bs.zero,0,1⟩:Tk),((a:Nat):Int)+1,true,rfl,gQ.ag,(dC oz (by unfold jG;(repeat (first|rw [if_pos oz]|rw [if_neg oz]));exact ⟨rfl,rfl,rfl⟩))⟩))))))))))
 refine aL 6 (fun Zn=>?_) fun Zn=>?_
 refine aU 3 (h:=jA H2 0 (k:=fun LC jy=>cG 2 [6,5,4,0,1] (h:=ae 3 (h:=aM (c:=Ht _ _ a LC oz oz oz) (k:=?_)))))
 rintro _ Oc ⟨TO,Ui,eW,gT,rfl,u24,XR⟩
 have lv:=jy.call u24
 exact aU 6 (h:=jA lv 0 (k:=fun SA j5=>aU 1 (h:=jA j5 0 (k:=fun VD kY=>ae 7 (h:=b8 (kY.b 0) (k:=aU 2 (h:=bC kY 0 (k:=fun Ob ja=>vT 5 (h1:=cK (ja.b 0)) (h2:=cZ) (h3:=cZ) (h:=⟨(⟨5,((a:Nat):Int),Bs.zero,TO,Ui⟩:Tk),eW,gT,rfl,ja.ag,(JX oz XR rfl)⟩)))))))))
 refine cG 6 [63,14,6,5,4,0,1] (h:=aL 0 (fun RP=>?_) fun RP=>?_)
 refine aU 3 (h:=jA H2 0 (k:=fun Oa lX=>ae 5 (h:=aM (c:=Gs _ _ a Oa (rT.at lX) oz (lw.at lX) oz oz) (k:=?_))))
 rintro _ WT ⟨oN,Cg,EW,rfl,u29,FF⟩
 have oV:=lX.call u29
 exact aU 5 (h:=bC oV 0 (k:=fun WS mJ=>ae 7 (h:=b8 (mJ.b 0) (k:=aU 2 (h:=bC mJ 0 (k:=fun Z1 mI=>vT 5 (h1:=cK (mI.b 0)) (h2:=cZ) (h3:=cZ) (h:=⟨(⟨1,((a:Nat):Int),oN,0,0⟩:Tk),Cg,EW,rfl,mI.ag,(nL oz FF rfl)⟩)))))))
 refine aL 6 (fun aiD=>?_) fun aiD=>?_
 refine ae 1 (h:=aM (c:=UI w2) (k:=?_))
 rintro _ Z0 ⟨rfl,u32⟩
 have mH:=H2.call u32
 exact aU 1 (h:=jA mH 0 (k:=fun w33 oM=>aU 1 (h:=bC oM 0 (k:=fun w34 qO=>ae 5 (h:=b8 (qO.b 0) (k:=aU 2 (h:=bC qO 0 (k:=fun w35 tN=>vT 5 (h1:=cK (tN.b 0)) (h2:=cZ) (h3:=cZ) (h:=⟨(⟨1,((a:Nat):Int),gF (gU [10]),0,0⟩:Tk),((a:Nat):Int)+1,true,rfl,tN.ag,(dC oz (by unfold jG;(repeat (first|rw [if_pos oz]|rw [if_neg oz]));exact ⟨rfl,rfl,rfl⟩))⟩)))))))))
 refine aL 6 (fun aiC=>?_) fun aiC=>?_
 refine aU 3 (h:=jA H2 0 (k:=fun w36 zG=>ae 4 (h:=da zG (k:=fun ZZ xe=>ae 6 (h:=aM (c:=K4 _ _ a ZZ (rT.at xe) oz oz oz) (k:=?_))))))
 rintro _ w38 ⟨Sz,vU,Xk,af2,rfl,u38,oH,sU⟩
 have uT:=xe.call u38
 refine aU 3 (h:=bC uT 1 (k:=fun w39 wh=>eI 3 wh (h:=fun w40 tM=>cP 1 1 (tM.b 1) (D:=fun _ hC=>b8 hC) (h:=cP 1 3 (tM.b 1) (D:=fun _ hC=>aH hC) (h:=c7 1 5 (D:=bC tM 0 (k:=fun w41 DO=>?_)))))))
 refine ⟨⟨(DO.b 1),trivial,trivial⟩,?_⟩
 exact ae 6 (h:=b8 (DO.b 0) (k:=aU 2 (h:=bC DO 0 (k:=fun w42 Lt=>vT 5 (h1:=cK (Lt.b 0)) (h2:=cZ) (h3:=cZ) (h:=⟨(⟨1,((a:Nat):Int),Sz,0,0⟩:Tk),Xk,af2,rfl,Lt.ag,(nK oz oH rfl)⟩)))))
 refine ae 3 (h:=kn a (k:=ae 0 (h:=db fh [bn p a] H2 (k:=fun w43 JL=>ae 0 (h:=aM (c:=nR _ [bn p a] _ ([bn p a].length) w43 (JL.rt 1) (by intro x hx;simp at hx;have:=cV p a;omega)) (k:=?_))))))
 rintro _ w44 ⟨rfl,u43⟩
 have JK:=JL.call u43
 exact aU 1 (h:=jA JK 0 (k:=fun w45 JJ=>aU 1 (h:=bC JJ 0 (k:=fun w46 JI=>ae 5 (h:=b8 (JI.b 0) (k:=aU 2 (h:=bC JI 0 (k:=fun w47 N5=>vT 5 (h1:=cK (N5.b 0)) (h2:=cZ) (h3:=cZ) (h:=⟨(⟨1,((a:Nat):Int),gU [bn p a],0,0⟩:Tk),((a:Nat):Int)+1,true,rfl,N5.ag,(dC oz (by unfold jG;(repeat (first|rw [if_pos oz]|rw [if_neg oz]));exact ⟨rfl,rfl,rfl⟩))⟩)))))))))
theorem Ha (p:ByteArray) (w:World) (rT:cd fh w (some ⟨0,0,none⟩) rG 64) (lw:Laid w):
 Calls Tryz.prog 53 #[.string p] w (bj fun v w'=>∃a2 c2,∃o:List Tk,∃at_ er,v= .tuple #[aG a2 o c2,ak at_,ak er]∧aE w [] w' [cg dT 131 a2 o c2]∧(eS p ⟨o,at_,er⟩)∧(o.length≤200)):=by
 have kH:=rT.le
 refine cL Tryz.func53 (h:=fun H0=>aL 15 (fun Zl=>?_) fun Zl=>?_)
 exact nP 8 (h:=⟨none,0,[],0,4,rfl,ej H0,(AF oz),(Nat.zero_le _)⟩)
 have H1:=H0.nr dT 131
 refine cY 14 [6,5,4,3,2,0] (fun B R L m e v=>∃aI,∃o:List Tk,∃oa oc,e=(6,ak aI)::(5,aG oa o oc)::B∧aA w L v ([cg dT 131 oa o oc]::R)∧(0≤aI∧aI≤p.size)∧(∀r,j1 p (Int.toNat aI) o r→j1 p 0 [] r)∧(o.length≤Int.toNat aI)∧m=p.size-Int.toNat aI) (i:=⟨0,([]:List Tk),none,0,rfl,H1,oz,(by exact fun r h=>h),(by simp),rfl⟩) (h:=?_)
 rintro m1 Γ1 w1 ⟨aI,o,oa,oc,rfl,H2,hi0,hI,GR,rfl⟩
 refine aL 9 (fun aiu=>?_) fun aiu=>?_
 refine ae 7 (h:=aM (c:=LL _ _ aI.toNat w1 (rT.at H2) oz (lw.at H2) oz oz) (k:=?_))
 rintro _ w2 ⟨t_1,eW,gT,rfl,u1,Qv⟩
 have H3:=H2.call u1
 refine ae 4 (h:=da H3 (k:=fun w3 H4=>aU 0 (h:=bC H4 1 (k:=fun w4 H5=>cS 11 (fun Zk=>?_) fun Zk=>?_))))
 exact nP 9 (h:=⟨none,0,[],aI,3,rfl,ej H5,(D2 oz oz oz hI ((show gT=false by simpa using Zk)▸Qv)),(Nat.zero_le _)⟩)
 have jn:=AE oz oz hI ((show gT=true by simpa using Zk)▸Qv)
 refine ae 5 (h:=b8 (H5.b 1) (k:=ae 0 (h:=db dT ([t_1]:List Tk) H5 (k:=fun w5 H6=>ae 0 (h:=fT H6 0 (H6.rt 2) (k:=fun a1 c1 w6 Vt=>?_))))))
 have H7:=(Vt.drop 2).no
 exact b6 8 (h:=by exact ⟨eW,o++([t_1]:List Tk),a1,c1,rfl,(H7.pm [0] rfl rfl),oz,(by exact jn.1),gv,rfl⟩)
 exact nP 11 (h:=⟨oa,oc,o,0,0,rfl,H2.iz 0,(AG oz oz hI),oz⟩)
theorem Kd (p:ByteArray) (aI:Int) (a:Nat) (w:World) (uB:aI=((a:Nat):Int)) (hp:p.size≤200) (ha:a<p.size):
 Calls Tryz.prog 93 #[.string p,ak aI] w (bj fun v w'=>∃x:Bs,∃nx,∃ok:Bool,∃nm:Bool,v= .agg #[av x.w0,av x.w1,av x.w2,av x.w3,ak nx,.bool ok,.bool nm]∧aE w [] w' []∧(Is (fP p a) ok (Aq none x nx))∧(nm=false)∧(0≤nx∧nx≤1000)):=by
 subst uB
 refine cL Tryz.func93 (h:=fun H0=>ae 2 (h:=da H0 (k:=fun w1 H1=>?_)))
 have KW:=cV p (a+1)
 have zB:=cV p (a+2)
 have Uo:=cV p (a+3)
 have NO:=rA zB
 have hx3:=rA Uo
 refine ae 6 (h:=aX (k:=aL 5 (fun Zg=>?_) fun Zg=>?_))
 exact ae 2 (h:=ck (us:=[av Bs.zero.w0,av Bs.zero.w1,av Bs.zero.w2,av Bs.zero.w3,ak 0,.bool false,.bool false]) (k:=aU 0 (h:=bC H1 0 (k:=fun w2 H2=>nG 3 (h1:=cK (H2.b 0)) (h:=⟨Bs.zero,0,false,false,rfl,H2.ag,(Is.no (Bw oz)),rfl,oz⟩)))))
 refine ae 7 (h:=aX (k:=ae 0 (h:=kn (a+1) (k:=aL 3 (fun Aj=>?_) fun Aj=>?_))))
 refine ae 4 (h:=aX (h1:=(by first|omega|exact kU (cV _ _))) (h2:=(by first|omega|exact kU (cV _ _))) (k:=ae 0 (h:=kn (a+1) (k:=ae 0 (h:=kT (h:=(by first|omega|exact kU (cV _ _))) (k:=ae 0 (h:=aM (c:=O6 (bn p (a+1)) w1) (k:=?_))))))))
 rintro _ w3 ⟨rfl,u3⟩
 have H3:=H1.call u3
 exact ae 3 (h:=da H3 (k:=fun w4 H4=>aU 0 (h:=bC H4 1 (k:=fun w5 H5=>ae 5 (h:=b8 (H5.b 1) (k:=ae 1 (h:=aX (k:=ae 1 (h:=ck (us:=[av (dc (kr (bn p (a+1)))).w0,av (dc (kr (bn p (a+1)))).w1,av (dc (kr (bn p (a+1)))).w2,av (dc (kr (bn p (a+1)))).w3,ak (((a:Nat):Int)+2),.bool (decide (dc (kr (bn p (a+1)))≠Bs.zero)),.bool false]) (k:=aU 0 (h:=bC H5 0 (k:=fun w6 H6=>nG 3 (h1:=cK (H6.b 0)) (h:=⟨(dc (kr (bn p (a+1)))),((a:Nat):Int)+2,decide (dc (kr (bn p (a+1)))≠Bs.zero),false,rfl,H6.ag,(Tw oz oz rfl),rfl,oz⟩)))))))))))))
 refine ae 6 (h:=aX (k:=bZ 4 38 (fun g55=>?_) fun g55=>?_))
 exact cG 17 [53,4,0,1] (h:=ae 3 (h:=ck (us:=[av Bs.zero.w0,av Bs.zero.w1,av Bs.zero.w2,av Bs.zero.w3,ak 0,.bool false,.bool false]) (k:=aU 0 (h:=bC H1 0 (k:=fun w7 H7=>nG 3 (h1:=cK (H7.b 0)) (h:=⟨Bs.zero,0,false,false,rfl,H7.ag,(Is.no (B2 oz oz)),rfl,oz⟩))))))
 refine ae 2 (h:=aX (k:=ae 0 (h:=kn (a+2) (k:=ae 0 (h:=aM (c:=pb (bn p (a+2)) w1 (cV _ _)) (k:=?_))))))
 rintro _ w8 ⟨rfl,u8⟩
 have H8:=H1.call u8
 refine bZ 3 46 (fun ahC=>?_) fun ahC=>?_
 exact cG 9 [53,4,0,1] (h:=ae 3 (h:=ck (us:=[av Bs.zero.w0,av Bs.zero.w1,av Bs.zero.w2,av Bs.zero.w3,ak 0,.bool false,.bool false]) (k:=aU 0 (h:=bC H8 0 (k:=fun w9 H9=>nG 3 (h1:=cK (H9.b 0)) (h:=⟨Bs.zero,0,false,false,rfl,H9.ag,(Is.no (B2 oz oz)),rfl,oz⟩))))))
 refine ae 2 (h:=aX (k:=ae 0 (h:=kn (a+3) (k:=ae 0 (h:=aM (c:=pb (bn p (a+3)) w8 (cV _ _)) (k:=?_))))))
 rintro _ gK ⟨rfl,qZ⟩
 have bO:=H8.call qZ
 refine cG 4 [53,4,0,1] (h:=aL 0 (fun c55=>?_) fun c55=>?_)
 exact ae 2 (h:=ck (us:=[av Bs.zero.w0,av Bs.zero.w1,av Bs.zero.w2,av Bs.zero.w3,ak 0,.bool false,.bool false]) (k:=aU 0 (h:=bC bO 0 (k:=fun iu bR=>nG 3 (h1:=cK (bR.b 0)) (h:=⟨Bs.zero,0,false,false,rfl,bR.ag,(Is.no (B2 oz oz)),rfl,oz⟩)))))
 refine eI 3 bO (h:=fun iW cm=>gZ 2 2 (D:=fun _=>aX) (h:=gZ 0 3 (D:=fun _=>kn (a+2)) (h:=gZ 2 8 (D:=fun _=>aX) (h:=gZ 0 9 (D:=fun _=>kn (a+3)) (h:=c7 0 4 (D:=aM (c:=pb (bn p (a+2)) iW (cV _ _)) (k:=?_)))))))
 rintro _ iV ⟨rfl,xh⟩
 have cW:=cm.call xh
 refine ⟨⟨trivial,trivial,trivial,trivial,trivial⟩,?_⟩
 refine gZ 0 5 (D:=fun _=>GP) (h:=c7 0 10 (D:=aM (c:=pb (bn p (a+3)) iV (cV _ _)) (k:=?_)))
 rintro _ lT ⟨rfl,BS⟩
 have cH:=cW.call BS
 refine ⟨⟨trivial,trivial⟩,?_⟩
 refine gZ 0 11 (D:=fun _=>aX) (h:=ae 7 (h:=aM (c:=gA _ ((((ee (bn p (a+2)))*16)+(ee (bn p (a+3)))).toNat) _ ((((ee (bn p (a+2)))*16)+(ee (bn p (a+3)))).toNat) lT oz oz oz oz) (k:=?_)))
 rintro _ qx ⟨rfl,S5⟩
 have cI:=cH.call S5
 exact ae 1 (h:=aX (k:=ae 0 (h:=ck (k:=aU 0 (h:=bC cI 0 (k:=fun qw cT=>nG 3 (h1:=cK (cT.b 0)) (h:=⟨(bM ((((ee (bn p (a+2)))*16)+(ee (bn p (a+3)))).toNat) ((((ee (bn p (a+2)))*16)+(ee (bn p (a+3)))).toNat)),((a:Nat):Int)+4,true,false,rfl,cT.ag,(O4 oz oz oz oz rfl),rfl,oz⟩)))))))
theorem J7 (p:ByteArray) (aI:Int) (a:Nat) (w:World) (uB:aI=((a:Nat):Int)) (hp:p.size≤200) (ha:a<p.size):
 Calls Tryz.prog 134 #[.string p,ak aI] w (bj fun v w'=>∃x:Bs,∃nx,∃ok:Bool,∃nm:Bool,v= .agg #[av x.w0,av x.w1,av x.w2,av x.w3,ak nx,.bool ok,.bool nm]∧aE w [] w' []∧(Is (eA p a) ok (nF none (some nm) x nx))∧(0≤nx∧nx≤1000)):=by
 subst uB
 refine cL Tryz.func134 (h:=fun H0=>ae 2 (h:=da H0 (k:=fun w1 H1=>ae 7 (h:=kn a (k:=aL 3 (fun U8=>?_) fun U8=>?_)))))
 refine ae 4 (h:=aM (c:=Kd _ _ a w1 oz oz oz) (k:=?_))
 rintro _ w2 ⟨oN,eW,gT,sJ,rfl,u2,oH,ace,sU⟩
 have H2:=H1.call u2
 exact aU 0 (h:=bC H2 0 (k:=fun w3 H3=>nG 3 (h1:=cK (H3.b 0)) (h:=⟨oN,eW,gT,sJ,rfl,H3.ag,(by rw [ace];exact Eh oz oH),oz⟩)))
 refine mK 3 [4,0,1] 0 H1 (fun B R L e v=>∃q:Bool,e=(33,.bool q)::B∧aA w L v (R)∧(q=named p a)) ?_ ?_
 refine ae 3 (h:=kn a (k:=bZ 2 20 (fun g67=>?_) fun g67=>?_))
 refine ae 1 (h:=aX (k:=bZ 5 27 (fun ahx=>?_) fun ahx=>?_))
 exact ae 2 (h:=aX (k:=ae 0 (h:=kn (a+1) (k:=cy 3 (h:=by exact ⟨decide (((bn p (a+1):Nat):Int)=(58:Int)),rfl,H1,(by unfold named;rw [Bool.eq_iff_iff];simp only [Bool.and_eq_true,decide_eq_true_eq,Bool.false_eq_true,false_iff,true_iff];omega)⟩)))))
 exact cy 7 (h:=by exact ⟨false,rfl,H1,(by unfold named;rw [Bool.eq_iff_iff];simp only [Bool.and_eq_true,decide_eq_true_eq,Bool.false_eq_true,false_iff,true_iff];omega)⟩)
 exact cy 14 (h:=by exact ⟨false,rfl,H1,(by unfold named;rw [Bool.eq_iff_iff];simp only [Bool.and_eq_true,decide_eq_true_eq,Bool.false_eq_true,false_iff,true_iff];omega)⟩)
 rintro Γ1 w4 ⟨q,rfl,H4,hq⟩
 refine cS 0 (fun N2=>?_) fun N2=>?_
 have Fz:named p a=true:=by rw [←hq];exact N2
 have Fy:=iN Fz
 refine ae 4 (h:=aX (k:=cY 4 [5,4,0,1] (fun B R L m e v=>∃k,e=(5,bJ k)::B∧aA w L v (R)∧(a+2≤k∧k≤p.size)∧(∀j,a+2≤j→j<k→jC p (a+2) j=false)∧m=p.size-k) (i:=⟨a+2,rfl,H4,oz,(by intro j h1 h2;omega),rfl⟩) (h:=?_)))
 rintro m1 Γ2 w5 ⟨k,rfl,H5,hk,hn,rfl⟩
 have Fz:named p a=true:=by rw [←hq];exact N2
 have Fy:=iN Fz
 refine ae 4 (h:=aX (k:=aL 5 (fun Gj=>?_) fun Gj=>?_))
 refine ae 8 (h:=kn k (k:=bZ 2 47 (fun K1=>?_) fun K1=>?_))
 refine ae 2 (h:=aX (k:=ae 0 (h:=kn (k+1) (k:=aL 4 (fun Ji=>?_) fun Ji=>?_))))
 have hci:cutAt p (a+2)=some k:=yT (by unfold jC;rw [decide_eq_true_eq];omega) hn
 refine ae 4 (h:=aX (k:=?_))
 refine aR 1 rfl (uE (((a:Nat):Int)+2) ((k:Nat):Int) (a+2) k Tryz.underlying9 rfl rfl rfl (.inr ⟨_,rfl⟩) (.inr ⟨_,rfl⟩) oz oz ⟨by omega,by omega,by omega⟩ (ae 0 (h:=aM (c:=Hy _ w5) (k:=?_))))
 rintro _ w6 ⟨rfl,u4⟩
 have H6:=H5.call u4
 exact ae 3 (h:=da H6 (k:=fun w7 H7=>aU 0 (h:=bC H7 1 (k:=fun w8 H8=>cG 3 [7,6,5,4] (h:=ae 2 (h:=b8 (H8.b 1) (k:=ae 1 (h:=aX (k:=ae 1 (h:=ck (k:=aU 0 (h:=bC H8 0 (k:=fun w9 H9=>nG 3 (h1:=cK (H9.b 0)) (h:=⟨(dc (ed (p.extract (a+2) k))),((k:Nat):Int)+2,isOk (p.extract (a+2) k),true,rfl,H9.ag,(Hg Fz hci rfl rfl),oz⟩))))))))))))))
 have Fz:named p a=true:=by rw [←hq];exact N2
 have Fy:=iN Fz
 exact ae 5 (h:=aX (k:=b6 2 (h:=by exact ⟨k+1,rfl,H5,oz,(by intro j h1 h2;exact (Nat.lt_or_ge j k).elim (hn j h1) (fun h9=>by (obtain rfl:j=k:=by omega);unfold jC;rw [decide_eq_false_iff_not];omega)),rfl⟩)))
 have Fz:named p a=true:=by rw [←hq];exact N2
 have Fy:=iN Fz
 exact ae 14 (h:=aX (k:=b6 2 (h:=by exact ⟨k+1,rfl,H5,oz,(by intro j h1 h2;exact (Nat.lt_or_ge j k).elim (hn j h1) (fun h9=>by (obtain rfl:j=k:=by omega);unfold jC;rw [decide_eq_false_iff_not];omega)),rfl⟩)))
 exact ae 4 (h:=ck (us:=[av Bs.zero.w0,av Bs.zero.w1,av Bs.zero.w2,av Bs.zero.w3,ak 0,.bool false,.bool false]) (k:=aU 0 (h:=bC H5 0 (k:=fun gK bO=>nG 3 (h1:=cK (bO.b 0)) (h:=⟨Bs.zero,0,false,false,rfl,bO.ag,(Is.no (LW Fz (yU fun j h1 h2=>hn j h1 oz))),oz⟩)))))
 have Fz:¬named p a=true:=by rw [←hq];exact N2
 have GX:=cV p a
 refine ae 6 (h:=kn a (k:=ae 0 (h:=kT (h:=(by first|omega|exact kU (cV _ _))) (k:=ae 7 (h:=aM (c:=gA _ (bn p a) _ (bn p a) w4 oz oz oz oz) (k:=?_))))))
 rintro _ iu ⟨rfl,u9⟩
 have bR:=H4.call u9
 exact ae 1 (h:=aX (k:=ae 0 (h:=ck (k:=aU 0 (h:=bC bR 0 (k:=fun iW cm=>nG 3 (h1:=cK (cm.b 0)) (h:=⟨(bM (bn p a) (bn p a)),((a:Nat):Int)+1,true,false,rfl,cm.ag,(AS oz Fz (range_one GX) (fun o ho=>by cases ho) rfl),oz⟩)))))))
theorem Pe (p:ByteArray) (aI:Int) (a:Nat) (w:World) (uB:aI=((a:Nat):Int)) (hp:p.size≤200) (ha:a<p.size):
 Calls Tryz.prog 92 #[.string p,ak aI] w (bj fun v w'=>∃x:Bs,∃nx,∃ok:Bool,∃nm:Bool,v= .agg #[av x.w0,av x.w1,av x.w2,av x.w3,ak nx,.bool ok,.bool nm]∧aE w [] w' []∧(∃r,uV p a r∧Is r ok (Dz x nx))):=by
 subst uB
 have wM:=BG ha
 refine cL Tryz.func92 (h:=fun H0=>ae 2 (h:=da H0 (k:=fun w1 H1=>ae 5 (h:=aX (k:=mK 3 [5,4,0] 0 H1 (fun B R L e v=>∃nt:Bool,e=(6,.bool nt)::B∧aA w L v (R)∧(nt=oI p a)) ?_ ?_)))))
 refine bZ 6 17 (fun g83=>?_) fun g83=>?_
 exact ae 2 (h:=kn (a+1) (k:=cy 4 (h:=by exact ⟨decide (((bn p (a+1):Nat):Int)=(94:Int)),rfl,H1,(by unfold oI;rw [Bool.eq_iff_iff];simp only [Bool.and_eq_true,decide_eq_true_eq,Bool.false_eq_true,false_iff,true_iff];omega)⟩)))
 exact cy 7 (h:=by exact ⟨false,rfl,H1,(by unfold oI;rw [Bool.eq_iff_iff];simp only [Bool.and_eq_true,decide_eq_true_eq,Bool.false_eq_true,false_iff,true_iff];omega)⟩)
 rintro Γ1 w2 ⟨nt,rfl,H2,Uc⟩
 refine mK 0 [6,4,0] 0 H2 (fun B R L e v=>∃iI,e=(5,ak iI)::B∧aA w L v (R)∧(iI=fS p a)) ?_ ?_
 refine cS 5 (fun Gh=>?_) fun Gh=>?_
 exact ae 2 (h:=aX (k:=cy 2 (h:=by exact ⟨(((a:Nat):Int)+1)+1,rfl,H2,(by unfold fS;rw [←Uc];first|rw [if_pos Gh];omega|rw [if_neg Gh];omega)⟩)))
 exact cy 1 (h:=by exact ⟨((a:Nat):Int)+1,rfl,H2,(by unfold fS;rw [←Uc];first|rw [if_pos Gh];omega|rw [if_neg Gh];omega)⟩)
 rintro Γ2 w3 ⟨iI,rfl,H3,hif⟩
 refine ae 2 (h:=da H3 (k:=fun w4 H4=>?_))
 have H5:=H4.ps [1,0]
 refine cY 4 [5,7,6,4,0] (fun B R L m e v=>∃iI,∃r:Bs,e=(5,ak iI)::B∧aA w L v ([bm w3.heap.size #[av r.w0,av r.w1,av r.w2,av r.w3] 87]::R)∧(0≤iI∧iI≤p.size)∧(∀q,wj p iI.toNat r q→wj p (fS p a) Bs.zero q)∧m=p.size-Int.toNat iI) (i:=⟨iI,Bs.zero,rfl,H5,oz,(by rw [hif];exact fun q h=>h),rfl⟩) (h:=?_)
 rintro m1 Γ3 w5 ⟨yu,r,rfl,H6,hi0,hI,rfl⟩
 refine aL 9 (fun U6=>?_) fun U6=>?_
 refine ae 8 (h:=kn yu.toNat (cN:=oz) (k:=aL 3 (fun c89=>?_) fun c89=>?_))
 refine cS 6 (fun U5=>?_) fun U5=>?_
 refine ae 1 (h:=b8 (H6.b 0) (k:=ae 0 (h:=aM (c:=Es r w5) (k:=?_))))
 rintro _ w6 ⟨rfl,u3⟩
 have H7:=H6.call u3
 exact aU 0 (h:=bC H7 0 (k:=fun w7 H8=>ae 4 (h:=b8 (H8.b 0) (k:=ae 1 (h:=aX (k:=ae 0 (h:=ck (k:=aU 0 (h:=bC H8 1 (k:=fun w8 H9=>nG 3 (h1:=cK (H9.b 1)) (h:=⟨(gF r),yu+1,true,false,rfl,H9.ag,(wX hI oz ⟨fun _=>by omega,fun _=>rfl⟩ (by unfold y7;rw [←Uc];first|rw [if_pos U5]|rw [if_neg U5]) oz)⟩)))))))))))
 exact ae 4 (h:=b8 (H6.b 0) (k:=ae 1 (h:=aX (k:=ae 0 (h:=ck (k:=aU 0 (h:=bC H6 1 (k:=fun w9 bO=>nG 3 (h1:=cK (bO.b 1)) (h:=⟨r,yu+1,true,false,rfl,bO.ag,(wX hI oz ⟨fun _=>by omega,fun _=>rfl⟩ (by unfold y7;rw [←Uc];first|rw [if_pos U5]|rw [if_neg U5]) oz)⟩)))))))))
 refine ae 6 (h:=aM (c:=J7 _ _ yu.toNat w5 oz oz oz) (k:=?_))
 rintro _ gK ⟨oN,eW,gT,sJ,rfl,u7,CF,sU⟩
 have bR:=H6.call u7
 refine ae 0 (h:=da bR (k:=fun iu cm=>aU 0 (h:=bC cm 2 (k:=fun iW cW=>ae 6 (h:=aH (cW.b 2) (k:=cS 3 (fun rS=>?_) fun rS=>?_))))))
 exact ae 2 (h:=ck (us:=[av Bs.zero.w0,av Bs.zero.w1,av Bs.zero.w2,av Bs.zero.w3,ak 0,.bool false,.bool false]) (k:=aU 0 (h:=bC cW 1 (k:=fun iV cH=>nG 3 (h1:=cK (cH.b 1)) (h:=⟨Bs.zero,0,false,false,rfl,cH.ag,(wY hI oz oz (Kh (CF.f (by rw [show gT=false by simpa using rS];decide))))⟩)))))
 have yw:Is (eA p yu.toNat) true (nF none (some sJ) oN eW):=(show gT=true by simpa using rS)▸CF
 have ho1:=ER oN sJ
 refine ae 5 (h:=aH (cW.b 2) (k:=?_))
 have cI:=cW.ps [2,0,1]
 refine mK 3 [8,7,6,4,0] 1 cI (fun B R L e v=>∃x2:Bs,∃SF,∃ok2:Bool,∃NM:Bool,e=B∧aA w L v ([bm gK.heap.size #[av x2.w0,av x2.w1,av x2.w2,av x2.w3,ak SF,.bool ok2,.bool NM] 168]::R)∧(kb p yu.toNat=some (x2,SF.toNat))∧(0≤SF)) ?_ ?_
 refine ae 2 (h:=b8 (cI.b 0) (k:=ae 0 (h:=aM (c:=o7 oN _ gT sJ iW) (k:=?_))))
 rintro _ lT ⟨rfl,zJ⟩
 have cT:=cI.call zJ
 refine bZ 2 53 (fun ah7=>?_) fun ah7=>?_
 refine ae 1 (h:=aX (k:=bZ 5 60 (fun ads=>?_) fun ads=>?_))
 refine ae 2 (h:=kn eW.toNat (cN:=oz) (k:=bZ 3 66 (fun YH=>?_) fun YH=>?_))
 refine ae 2 (h:=aX (k:=ae 0 (h:=kn ((eW+1).toNat) (cN:=oz) (k:=cG 4 [72,9,8,7,6,4,0] (h:=aL 0 (fun mF=>?_) fun mF=>?_)))))
 refine ae 4 (h:=aX (k:=ae 0 (h:=aM (c:=J7 _ _ ((eW+1).toNat) lT oz oz oz) (k:=?_))))
 rintro _ qx ⟨Sz,Cg,EW,Mv,rfl,xh,IB,agA⟩
 have dj:=cT.call xh
 refine ae 0 (h:=da dj (k:=fun qw dY=>aU 0 (h:=bC dY 3 (k:=fun uW eJ=>?_))))
 have ho2:=ER Sz Mv
 refine eI 4 eJ (h:=fun zI dB=>cP 1 1 (dB.b 3) (D:=fun _ hC=>aH hC) (h:=EI 2 80 (fun M9=>?_) fun M9=>?_))
 refine ae 11 (h:=ck (us:=[av Bs.zero.w0,av Bs.zero.w1,av Bs.zero.w2,av Bs.zero.w3,ak 0,.bool false,.bool false]) (k:=aU 0 (h:=bC dB 2 (k:=fun zo gu=>nG 3 (h1:=cK (gu.b 2)) (h:=?_)))))
 have e2:=tU yw ⟨by omega,by omega,by omega,by omega⟩ IB
 first|rw [if_pos (by simpa using M9),if_pos oz] at e2|rw [if_neg (by simpa using M9)] at e2
 exact ⟨Bs.zero,0,false,false,rfl,gu.ag,(wY hI oz oz e2)⟩
 refine cP 0 4 (dB.b 3) (D:=fun _ hC=>b8 hC) (h:=cP 0 6 (dB.b 0) (D:=fun _ hC=>b8 hC) (h:=c7 0 5 (D:=aM (c:=o7 Sz _ EW Mv zI) (k:=?_))))
 rintro _ DV ⟨rfl,u16⟩
 have gQ:=dB.call u16
 refine ⟨⟨(gQ.b 0),trivial⟩,?_⟩
 refine c7 0 7 (D:=aM (c:=o7 oN _ gT sJ DV) (k:=?_))
 rintro _ Od ⟨rfl,LG⟩
 have jy:=gQ.call LG
 refine ⟨trivial,?_⟩
 refine aL 4 (fun mE=>?_) fun mE=>?_
 refine ae 2 (h:=ck (us:=[av Bs.zero.w0,av Bs.zero.w1,av Bs.zero.w2,av Bs.zero.w3,ak 0,.bool false,.bool false]) (k:=aU 0 (h:=bC jy 2 (k:=fun LD lv=>nG 3 (h1:=cK (lv.b 2)) (h:=?_)))))
 have e2:=tU yw ⟨by omega,by omega,by omega,by omega⟩ IB
 first|rw [if_pos (by simpa using M9),if_pos oz] at e2|rw [if_neg (by simpa using M9)] at e2
 exact ⟨Bs.zero,0,false,false,rfl,lv.ag,(wY hI oz oz e2)⟩
 have e2:=tU yw ⟨by omega,by omega,by omega,by omega⟩ IB
 rw [if_pos (by simpa using M9),if_neg oz] at e2
 refine eI 2 jy (h:=fun LC j5=>cP 0 0 (j5.b 0) (D:=fun _ hC=>b8 hC) (h:=cP 0 2 (j5.b 3) (D:=fun _ hC=>b8 hC) (h:=cP 1 6 (j5.b 3) (D:=fun _ hC=>aH hC) (h:=c7 0 1 (D:=aM (c:=o7 oN _ gT sJ LC) (k:=?_))))))
 rintro _ Oc ⟨rfl,u19⟩
 have kY:=j5.call u19
 refine ⟨⟨(kY.b 3),trivial,(kY.b 3),trivial⟩,?_⟩
 refine c7 0 3 (D:=aM (c:=o7 Sz _ EW Mv Oc) (k:=?_))
 rintro _ SA ⟨rfl,u20⟩
 have ja:=kY.call u20
 refine ⟨⟨(ja.b 3),trivial,trivial⟩,?_⟩
 refine c7 0 4 (D:=aM (c:=gA _ ((jO oN sJ).toNat) _ ((jO Sz Mv).toNat) SA oz oz oz oz) (k:=?_))
 rintro _ VD ⟨rfl,u21⟩
 have lX:=ja.call u21
 refine ⟨⟨(lX.b 3),trivial,trivial⟩,?_⟩
 refine gZ 0 7 (D:=fun _=>ck) (h:=c7 0 8 (D:=bC lX 0 (k:=fun Ob oV=>?_)))
 refine ⟨trivial,?_⟩
 exact cy 1 (h:=by exact ⟨(bM ((jO oN sJ).toNat) ((jO Sz Mv).toNat)),Cg,true,false,rfl,(oV.pm [0,1,2] rfl rfl),(by first|exact e2|exact ly yw oz),oz⟩)
 exact cy 1 (h:=by exact ⟨oN,eW,gT,sJ,rfl,cT,(by first|exact e2|exact ly yw oz),oz⟩)
 exact cG 8 [72,9,8,7,6,4,0] (h:=cy 2 (h:=by exact ⟨oN,eW,gT,sJ,rfl,cT,(by first|exact e2|exact ly yw oz),oz⟩))
 exact cG 14 [72,9,8,7,6,4,0] (h:=cy 2 (h:=by exact ⟨oN,eW,gT,sJ,rfl,cT,(by first|exact e2|exact ly yw oz),oz⟩))
 exact cG 21 [72,9,8,7,6,4,0] (h:=cy 2 (h:=by exact ⟨oN,eW,gT,sJ,rfl,cT,(by first|exact e2|exact ly yw oz),oz⟩))
 rintro Γ4 Oa ⟨x2,SF,ok2,NM,rfl,mJ,hpf,XZ⟩
 have hpr:=ug oz hpf
 refine ae 2 (h:=b8 (mJ.b 1) (k:=ae 1 (h:=b8 (mJ.b 0) (k:=ae 0 (h:=aM (c:=L8 r x2 Oa) (k:=?_))))))
 rintro _ WT ⟨rfl,WU⟩
 have mI:=mJ.call WU
 exact aU 0 (h:=bC mI 1 (k:=fun WS mH=>ae 4 (h:=aH (mH.b 0) (k:=b6 3 (h:=by exact ⟨SF,(sw r x2),rfl,(mH.pm [1,2] rfl rfl),oz,(by intro q h;exact hI q (.step oz oz hpf h)),rfl⟩)))))
 exact ae 4 (h:=ck (us:=[av Bs.zero.w0,av Bs.zero.w1,av Bs.zero.w2,av Bs.zero.w3,ak 0,.bool false,.bool false]) (k:=aU 0 (h:=bC H6 1 (k:=fun Z1 oM=>nG 3 (h1:=cK (oM.b 1)) (h:=⟨Bs.zero,0,false,false,rfl,oM.ag,(R0 hI oz)⟩)))))
theorem J8 (p:ByteArray) (aI:Int) (a:Nat) (w:World) (uB:aI=((a:Nat):Int)) (hp:p.size≤200) (ha:a≤p.size):
 Calls Tryz.prog 133 #[.string p,ak aI] w (bj fun v w'=>v= .tuple #[ak (kp p a),bJ (a+kD p a)]∧aE w [] w' []):=by
 subst uB
 refine cL Tryz.func133 (h:=fun H0=>cY 19 [7,6,5,4,0,1] (fun B R L m e v=>∃k:Nat,∃nI,e=(7,ak nI)::(6,bJ (a+k))::B∧aA w L v (R)∧(k≤kD p a)∧(nI=(dZ p a k:Nat))∧m=3-k) (i:=⟨0,0,rfl,H0,(by exact Nat.zero_le _),rfl,rfl⟩) (h:=?_))
 rintro m1 Γ1 w1 ⟨k,nI,rfl,H1,hk,hn,rfl⟩
 have hvs:=jE hk
 have Ac:=cV p (a+k)
 refine mK 1 [7,6,5,4,0,1] 0 H1 (fun B R L e v=>∃q:Bool,e=(30,.bool q)::B∧aA w L v (R)∧(q=(decide (k<3)&&wS p (a+k)))) ?_ ?_
 refine bZ 6 13 (fun ah3=>?_) fun ah3=>?_
 refine ae 2 (h:=aX (k:=bZ 3 19 (fun ado=>?_) fun ado=>?_))
 refine ae 2 (h:=kn (a+k) (k:=bZ 3 25 (fun YD=>?_) fun YD=>?_))
 exact ae 2 (h:=kn (a+k) (k:=cy 3 (h:=by exact ⟨decide (((bn p (a+k):Nat):Int)≤(57:Int)),rfl,H1,(by unfold wS;rw [Bool.eq_iff_iff];simp only [Bool.and_eq_true,decide_eq_true_eq,Bool.false_eq_true,false_iff,true_iff];omega)⟩)))
 exact cy 6 (h:=by exact ⟨false,rfl,H1,(by unfold wS;rw [Bool.eq_iff_iff];simp only [Bool.and_eq_true,decide_eq_true_eq,Bool.false_eq_true,false_iff,true_iff];omega)⟩)
 exact cy 12 (h:=by exact ⟨false,rfl,H1,(by unfold wS;rw [Bool.eq_iff_iff];simp only [Bool.and_eq_true,decide_eq_true_eq,Bool.false_eq_true,false_iff,true_iff];omega)⟩)
 exact cy 18 (h:=by exact ⟨false,rfl,H1,(by unfold wS;rw [Bool.eq_iff_iff];simp only [Bool.and_eq_true,decide_eq_true_eq,Bool.false_eq_true,false_iff,true_iff];omega)⟩)
 rintro Γ2 w2 ⟨q,rfl,H2,hq⟩
 refine cS 0 (fun RU=>?_) fun RU=>?_
 have hgo:=VU hk hq RU
 have hdg:=Q7 (c:=bn p (a+k)) oz
 refine ae 6 (h:=GP (k:=ae 2 (h:=kn (a+k) (k:=ae 0 (h:=aM (c:=pb (bn p (a+k)) w2 (cV _ _)) (k:=?_))))))
 rintro _ w3 ⟨rfl,u1⟩
 have H3:=H2.call u1
 exact ae 0 (h:=aX (k:=ae 5 (h:=aX (k:=b6 3 (h:=by exact ⟨k+1,(nI*10)+(ee (bn p (a+k))),rfl,H3,(by exact hgo.1),(by rw [hn];simp only [dZ];omega),rfl⟩)))))
 refine mK 3 [7,6,5,4] 0 H2 (fun B R L e v=>∃q2:Bool,e=(64,.bool q2)::B∧aA w L v (R)∧(k=kD p a)∧(q2= !cD p a)) ?_ ?_
 have v7:=Qm hk hq RU
 have GX:=cV p a
 have h0d:0<k→a<p.size:=fun h9=>by have h8:=wR (uo (p:=p) (a:=a) (k:=0) oz);omega
 refine bZ 5 43 (fun uA=>?_) fun uA=>?_
 exact cy 22 (h:=by exact ⟨true,rfl,H2,(by exact v7),(by rw [mX,←v7];rw [Bool.eq_iff_iff];simp only [Bool.not_eq_true',decide_eq_true_eq,decide_eq_false_iff_not,Bool.false_eq_true,false_iff,true_iff];omega)⟩)
 refine ae 2 (h:=aX (k:=bZ 3 49 (fun adm=>?_) fun adm=>?_))
 exact cy 16 (h:=by exact ⟨true,rfl,H2,(by exact v7),(by rw [mX,←v7];rw [Bool.eq_iff_iff];simp only [Bool.not_eq_true',decide_eq_true_eq,decide_eq_false_iff_not,Bool.false_eq_true,false_iff,true_iff];omega)⟩)
 refine bZ 4 53 (fun YB=>?_) fun YB=>?_
 exact cy 12 (h:=by exact ⟨true,rfl,H2,(by exact v7),(by rw [mX,←v7];rw [Bool.eq_iff_iff];simp only [Bool.not_eq_true',decide_eq_true_eq,decide_eq_false_iff_not,Bool.false_eq_true,false_iff,true_iff];omega)⟩)
 refine ae 2 (h:=aX (k:=bZ 2 58 (fun UA=>?_) fun UA=>?_))
 exact ae 2 (h:=kn a (k:=cy 4 (h:=by exact ⟨decide (((bn p a:Nat):Int)=(48:Int)),rfl,H2,(by exact v7),(by rw [mX,←v7];rw [Bool.eq_iff_iff];simp only [Bool.not_eq_true',decide_eq_true_eq,decide_eq_false_iff_not,Bool.false_eq_true,false_iff,true_iff];omega)⟩)))
 exact cy 7 (h:=by exact ⟨false,rfl,H2,(by exact v7),(by rw [mX,←v7];rw [Bool.eq_iff_iff];simp only [Bool.not_eq_true',decide_eq_true_eq,decide_eq_false_iff_not,Bool.false_eq_true,false_iff,true_iff];omega)⟩)
 rintro Γ3 w4 ⟨q2,rfl,H4,v7,zx⟩
 refine cS 0 (fun Dd=>?_) fun Dd=>?_
 refine gr 8 (h:=?_)
 have e9:kp p a= -1:=by unfold kp;rw [if_neg (by rw [zx] at Dd;simpa using Dd)]
 exact ⟨(by rw [e9,←v7];try rfl),H4.ag⟩
 refine gr 11 (h:=?_)
 have e9:kp p a=(dZ p a k:Nat):=by unfold kp;rw [if_pos (by rw [zx] at Dd;simpa using Dd),←v7]
 exact ⟨(by rw [hn,e9,←v7];try rfl),H4.ag⟩
theorem Xa (p:ByteArray) (aI:Int) (a:Nat) (w:World) (uB:aI=((a:Nat):Int)) (hp:p.size≤200) (ha:a<p.size):
 Calls Tryz.prog 91 #[.string p,ak aI] w (bj fun v w'=>∃lo hi nx,v= .tuple #[ak lo,ak hi,ak nx]∧aE w [] w' []∧(Is (iF p a) (decide (nx≠0)) (Dx lo hi nx))):=by
 subst uB
 refine cL Tryz.func91 (h:=fun H0=>ae 11 (h:=aX (k:=ae 0 (h:=aM (c:=J8 _ _ (a+1) w oz oz oz) (k:=?_)))))
 rintro _ w1 ⟨rfl,u1⟩
 have H1:=H0.call u1
 have hv1:=E6 p (a+1)
 have SM:=Fm (p:=p) (a:=a+1) oz
 have ag3:=Be p (a+1)
 refine bZ 13 20 (fun ahY=>?_) fun ahY=>?_
 exact nP 16 (h:=⟨0,0,0,rfl,H1.ag,(Is.zero (xN (by first|exact .inl (Ks oz)|exact .inr oz)))⟩)
 refine aL 7 (fun RT=>?_) fun RT=>?_
 exact nP 8 (h:=⟨0,0,0,rfl,H1.ag,(Is.zero (xN (by first|exact .inl (Ks oz)|exact .inr oz)))⟩)
 obtain ⟨SJ,Z9⟩:=pj (p:=p) (a:=a+1) oz
 refine ae 7 (h:=kn ((a+1)+kD p (a+1)) (k:=aL 3 (fun j0=>?_) fun j0=>?_))
 exact ae 5 (h:=aX (k:=nP 6 (h:=⟨kp p (a+1),kp p (a+1),(((a+1)+kD p (a+1):Nat):Int)+1,rfl,H1.ag,(B4 (o9 SJ oz oz ⟨fun _=>by omega,fun _=>rfl⟩ Z9 Z9 rfl))⟩)))
 refine ae 7 (h:=kn ((a+1)+kD p (a+1)) (k:=bZ 2 38 (fun Yz=>?_) fun Yz=>?_))
 exact cG 8 [44,8,7,6,5,4,0] (h:=nP 9 (h:=⟨0,0,0,rfl,H1.ag,(Is.zero (by first|exact (o9 (ok:=false) SJ oz oz ⟨fun h9=>(by cases h9),fun h9=>oz⟩ rfl rfl rfl).f (by decide)|exact (o8 (ok:=false) SJ oz oz oz ⟨fun h9=>(by cases h9),fun h9=>oz⟩ rfl rfl rfl).f (by decide)))⟩))
 refine ae 1 (h:=aX (k:=cG 6 [44,8,7,6,5,4,0] (h:=aL 0 (fun nD=>?_) fun nD=>?_)))
 exact nP 8 (h:=⟨0,0,0,rfl,H1.ag,(Is.zero (by first|exact (o9 (ok:=false) SJ oz oz ⟨fun h9=>(by cases h9),fun h9=>oz⟩ rfl rfl rfl).f (by decide)|exact (o8 (ok:=false) SJ oz oz oz ⟨fun h9=>(by cases h9),fun h9=>oz⟩ rfl rfl rfl).f (by decide)))⟩)
 refine ae 7 (h:=aX (k:=ae 0 (h:=kn (((a+1)+kD p (a+1))+1) (k:=aL 3 (fun kv=>?_) fun kv=>?_))))
 exact ae 4 (h:=aX (k:=nP 6 (h:=⟨kp p (a+1),-1,(((a+1)+kD p (a+1):Nat):Int)+2,rfl,H1.ag,(B4 (o8 SJ oz oz oz ⟨fun _=>by omega,fun _=>rfl⟩ Z9 rfl oz))⟩)))
 refine ae 6 (h:=aX (k:=ae 0 (h:=aM (c:=J8 _ _ (((a+1)+kD p (a+1))+1) w1 oz oz oz) (k:=?_))))
 rintro _ w2 ⟨rfl,u2⟩
 have H2:=H1.call u2
 have hv2:=E6 p (a+1+kD p (a+1)+1)
 have tK:=Fm (p:=p) (a:=a+1+kD p (a+1)+1) oz
 refine bZ 14 63 (fun ahV=>?_) fun ahV=>?_
 exact cG 13 [74,10,9,7,6,5,4] (h:=nP 9 (h:=⟨0,0,0,rfl,H2.ag,(Is.zero (by first|exact xO oz (Ci oz) oz|(obtain ⟨SI,XJ⟩:=pj (p:=p) (a:=a+1+kD p (a+1)+1) oz;exact (oE (ok:=false) SJ oz oz oz SI oz ⟨fun h9=>(by cases h9),fun h9=>oz⟩ rfl rfl rfl).f dF)))⟩))
 refine bZ 6 69 (fun adh=>?_) fun adh=>?_
 exact cG 7 [74,10,9,7,6,5,4] (h:=nP 9 (h:=⟨0,0,0,rfl,H2.ag,(Is.zero (by first|exact xO oz (Ci oz) oz|(obtain ⟨SI,XJ⟩:=pj (p:=p) (a:=a+1+kD p (a+1)+1) oz;exact (oE (ok:=false) SJ oz oz oz SI oz ⟨fun h9=>(by cases h9),fun h9=>oz⟩ rfl rfl rfl).f dF)))⟩))
 refine ae 2 (h:=kn ((((a+1)+kD p (a+1))+1)+kD p (((a+1)+kD p (a+1))+1)) (k:=cG 4 [74,10,9,7,6,5,4] (h:=aL 0 (fun aiI=>?_) fun aiI=>?_)))
 exact nP 8 (h:=⟨0,0,0,rfl,H2.ag,(Is.zero (by first|exact xO oz (Ci oz) oz|(obtain ⟨SI,XJ⟩:=pj (p:=p) (a:=a+1+kD p (a+1)+1) oz;exact (oE (ok:=false) SJ oz oz oz SI oz ⟨fun h9=>(by cases h9),fun h9=>oz⟩ rfl rfl rfl).f dF)))⟩)
 refine ae 7 (h:=aX (k:=nP 6 (h:=?_)))
 obtain ⟨SI,XJ⟩:=pj (p:=p) (a:=a+1+kD p (a+1)+1) oz
 exact ⟨kp p (a+1),kp p (((a+1)+kD p (a+1))+1),(((((a+1)+kD p (a+1))+1)+kD p (((a+1)+kD p (a+1))+1):Nat):Int)+1,rfl,H2.ag,(B4 (oE SJ oz oz oz SI oz ⟨fun _=>by omega,fun _=>rfl⟩ Z9 XJ oz))⟩
theorem W7 (p:ByteArray) (aI:Int) (a:Nat) (w:World) (uB:aI=((a:Nat):Int)) (hp:p.size≤200) (ha:a<p.size):
 Calls Tryz.prog 76 #[.string p,ak aI] w (bj fun v w'=>∃t:Tk,∃nx,v= .tuple #[.agg #[ak t.kind,ak t.pos,av t.set.w0,av t.set.w1,av t.set.w2,av t.set.w3,ak t.lo,ak t.hi],ak nx]∧aE w [] w' []∧(mG p a t nx)):=by
 subst uB
 have h5:(⟨#[124,40,41,94,36]⟩:ByteArray).size=5:=rfl
 refine cL Tryz.func76 (h:=fun H0=>ae 2 (h:=da H0 (k:=fun w1 H1=>ae 10 (h:=db (aw .i64) [2,3,4,6,7] H1 (k:=fun w2 H2=>cY 10 [8,7,6,5,4,0,1] (fun B R L m e v=>∃k,e=(8,bJ k)::B∧aA w L v (R)∧(k≤5)∧(∀j,j<k→bn ⟨#[124,40,41,94,36]⟩ j≠bn p a)∧m=5-k) (i:=⟨0,rfl,H2,om,(by intro j hj;omega),rfl⟩) (h:=?_))))))
 rintro m1 Γ1 w3 ⟨k,rfl,H3,hk,hn,rfl⟩
 refine aL 9 (fun RP=>?_) fun RP=>?_
 refine eI 5 H3 (h:=fun w4 H4=>gZ 2 2 (D:=fun _=>kn k) (h:=gZ 2 5 (D:=fun _=>kn a) (h:=aL 3 (fun aiE=>?_) fun aiE=>?_)))
 exact ae 4 (h:=bU k (H4.rt 1) (hj:=uY) (k:=ae 0 (h:=cn (H4.rt 1) (hj:=uY) (k:=ae 1 (h:=ck (us:=[ak ([2,3,4,6,7].getD k 0),bJ a,av Bs.zero.w0,av Bs.zero.w1,av Bs.zero.w2,av Bs.zero.w3,ak 0,ak 0]) (k:=ae 1 (h:=aX (k:=aU 0 (h:=bC H4 0 (k:=fun w5 H5=>fx 4 (h1:=cK (H5.b 0)) (h2:=cZ) (h:=⟨(⟨[2,3,4,6,7].getD k 0,((a:Nat):Int),Bs.zero,0,0⟩:Tk),((a:Nat):Int)+1,rfl,H5.ag,(OP oz ha oz rfl)⟩)))))))))))
 exact ae 5 (h:=aX (k:=b6 2 (h:=by exact ⟨k+1,rfl,H4,om,(by intro j hj;exact (Nat.lt_or_ge j k).elim (hn j) (fun h9=>by (obtain rfl:j=k:=by omega);omega)),rfl⟩)))
 refine mK 2 [5,4,0,1] 0 H3 (fun B R L e v=>∃g9:Nat,e=(9,.pointer (some ⟨g9,0,none⟩))::B∧aA w L v ([bm g9 #[av (bM (bn p a) (bn p a)).w0,av (bM (bn p a) (bn p a)).w1,av (bM (bn p a) (bn p a)).w2,av (bM (bn p a) (bn p a)).w3,ak (((a:Nat):Int)+1),.bool true,.bool false] 168]::R)∧(bn p a≠124∧bn p a≠40∧bn p a≠41∧bn p a≠94∧bn p a≠36)) ?_ ?_
 have GX:=cV p a
 have XO:=OQ (fun j hj=>hn j oz)
 refine eI 0 H3 (h:=fun w6 H6=>gZ 2 2 (D:=fun _=>kn a) (h:=gZ 0 3 (D:=fun _=>kT (h:=(by first|omega|exact kU (cV _ _)))) (h:=gZ 2 6 (D:=fun _=>kn a) (h:=gZ 0 7 (D:=fun _=>kT (h:=(by first|omega|exact kU (cV _ _)))) (h:=gZ 1 10 (D:=fun _=>aX (h1:=(by first|omega|exact kU (cV _ _))) (h2:=(by first|omega|exact kU (cV _ _)))) (h:=S4 0 [8,12] (Ds ?_ ?_)))))))
 refine DT (D:=aM (c:=gA _ (bn p a) _ (bn p a) w6 oz oz oz oz) (k:=?_))
 rintro _ w7 ⟨rfl,u4⟩
 have H7:=H6.call u4
 refine ⟨⟨trivial,trivial,trivial⟩,?_⟩
 refine gZ 0 11 (D:=fun _=>ck) (h:=c7 0 12 (D:=da H7 (k:=fun w8 H8=>?_)))
 refine ⟨⟨trivial,trivial,trivial,trivial⟩,?_⟩
 refine c7 0 13 (D:=bC H8 2 (k:=fun w9 H9=>?_))
 refine ⟨trivial,?_⟩
 exact cy 1 (h:=by exact ⟨w7.heap.size,rfl,(H9.pm [2,0,1] rfl rfl),(by exact XO)⟩)
 refine DT (D:=da H6 (k:=fun gK bO=>?_))
 refine ⟨⟨trivial,trivial,trivial,trivial,trivial,trivial,trivial,trivial,trivial,trivial,trivial⟩,?_⟩
 refine c7 0 8 (D:=aM (c:=gA _ (bn p a) _ (bn p a) gK oz oz oz oz) (k:=?_))
 rintro _ iu ⟨rfl,u8⟩
 have bR:=bO.call u8
 refine ⟨⟨trivial,trivial,trivial⟩,?_⟩
 refine gZ 0 11 (D:=fun _=>ck) (h:=c7 0 13 (D:=bC bR 2 (k:=fun iW cm=>?_)))
 refine ⟨trivial,?_⟩
 exact cy 1 (h:=by exact ⟨w6.heap.size,rfl,(cm.pm [2,0,1] rfl rfl),(by exact XO)⟩)
 rintro Γ2 iV ⟨g9,rfl,cW,XO⟩
 refine ae 5 (h:=kn a (k:=aL 9 (fun aiB=>?_) fun aiB=>?_))
 exact ae 3 (h:=ck (us:=[ak 5,bJ a,av Bs.zero.w0,av Bs.zero.w1,av Bs.zero.w2,av Bs.zero.w3,ak 0,ak (-1)]) (k:=ae 1 (h:=aX (k:=aU 0 (h:=bC cW 1 (k:=fun lT cH=>fx 4 (h1:=cK (cH.b 1)) (h2:=cZ) (h:=⟨(⟨5,((a:Nat):Int),Bs.zero,0,-1⟩:Tk),((a:Nat):Int)+1,rfl,cH.ag,(fZ.pos ha (dC oz (by unfold jG;(repeat (first|rw [if_pos oz]|rw [if_neg oz]));exact ⟨rfl,rfl,rfl⟩)))⟩)))))))
 refine aL 6 (fun Vc=>?_) fun Vc=>?_
 exact ae 3 (h:=ck (us:=[ak 5,bJ a,av Bs.zero.w0,av Bs.zero.w1,av Bs.zero.w2,av Bs.zero.w3,ak 1,ak (-1)]) (k:=ae 1 (h:=aX (k:=aU 0 (h:=bC cW 1 (k:=fun qx cI=>fx 4 (h1:=cK (cI.b 1)) (h2:=cZ) (h:=⟨(⟨5,((a:Nat):Int),Bs.zero,1,-1⟩:Tk),((a:Nat):Int)+1,rfl,cI.ag,(fZ.pos ha (dC oz (by unfold jG;(repeat (first|rw [if_pos oz]|rw [if_neg oz]));exact ⟨rfl,rfl,rfl⟩)))⟩)))))))
 refine aL 6 (fun aiz=>?_) fun aiz=>?_
 exact ae 3 (h:=ck (us:=[ak 5,bJ a,av Bs.zero.w0,av Bs.zero.w1,av Bs.zero.w2,av Bs.zero.w3,ak 0,ak 1]) (k:=ae 1 (h:=aX (k:=aU 0 (h:=bC cW 1 (k:=fun qw cT=>fx 4 (h1:=cK (cT.b 1)) (h2:=cZ) (h:=⟨(⟨5,((a:Nat):Int),Bs.zero,0,1⟩:Tk),((a:Nat):Int)+1,rfl,cT.ag,(fZ.pos ha (dC oz (by unfold jG;(repeat (first|rw [if_pos oz]|rw [if_neg oz]));exact ⟨rfl,rfl,rfl⟩)))⟩)))))))
 refine aL 6 (fun Zm=>?_) fun Zm=>?_
 refine ae 4 (h:=aM (c:=Xa _ _ a iV oz oz oz) (k:=?_))
 rintro _ uW ⟨TO,Ui,eW,rfl,BS,XR⟩
 have dj:=cW.call BS
 exact ae 14 (h:=ck (us:=[ak 5,bJ a,av Bs.zero.w0,av Bs.zero.w1,av Bs.zero.w2,av Bs.zero.w3,ak TO,ak Ui]) (k:=aU 1 (h:=bC dj 1 (k:=fun zI dY=>cG 3 [5,4] (h:=fx 1 (h1:=cK (dY.b 1)) (h2:=cZ) (h:=⟨(⟨5,((a:Nat):Int),Bs.zero,TO,Ui⟩:Tk),eW,rfl,dY.ag,(by unfold mG;exact JX oz XR rfl)⟩))))))
 refine aL 6 (fun aiw=>?_) fun aiw=>?_
 refine ae 3 (h:=aM (c:=Pe _ _ a iV oz oz oz) (k:=?_))
 rintro _ zo ⟨oN,Cg,gT,sJ,rfl,Oj,FF⟩
 have eJ:=cW.call Oj
 refine aU 0 (h:=bC eJ 0 (k:=fun DV dB=>ae 7 (h:=aH (dB.b 0) (k:=cS 3 (fun rM=>?_) fun rM=>?_))))
 exact ae 2 (h:=ck (us:=[ak 0,ak 0,av Bs.zero.w0,av Bs.zero.w1,av Bs.zero.w2,av Bs.zero.w3,ak 0,ak 0]) (k:=aU 0 (h:=bC dB 1 (k:=fun Od gu=>fx 4 (h1:=cK (gu.b 1)) (h2:=cZ) (h:=⟨(⟨0,0,Bs.zero,0,0⟩:Tk),0,rfl,gu.ag,(by first|exact fZ.zero (nL oz ((show gT=false by simpa using rM)▸FF) rfl)|exact fZ.zero (nK oz ((show EW=false by simpa using rM)▸oH) rfl))⟩)))))
 refine eI 3 dB (h:=fun LD gQ=>cP 2 2 (gQ.b 0) (D:=fun _ hC=>b8 hC) (h:=gZ 0 3 (D:=fun _=>ck) (h:=cP 1 5 (gQ.b 0) (D:=fun _ hC=>aH hC) (h:=c7 0 6 (D:=bC gQ 1 (k:=fun LC jy=>?_))))))
 refine ⟨⟨(jy.b 0),trivial,trivial⟩,?_⟩
 exact fx 4 (h1:=cK (jy.b 1)) (h2:=cZ) (h:=⟨(⟨1,((a:Nat):Int),oN,0,0⟩:Tk),Cg,rfl,jy.ag,(by first|exact mG.of ha (nL oz FF rfl) (by simpa using rM)|exact mG.of ha (nK oz oH rfl) (by simpa using rM)|exact so ha oz rfl|exact pX ha XO oz oz oz oz oz oz oz rfl)⟩)
 refine aL 6 (fun Zl=>?_) fun Zl=>?_
 refine ae 3 (h:=aM (c:=Kd _ _ a iV oz oz oz) (k:=?_))
 rintro _ Oc ⟨Sz,Xk,EW,Mv,rfl,u19,oH,ace,sU⟩
 have lv:=cW.call u19
 refine aU 0 (h:=bC lv 0 (k:=fun SA j5=>ae 7 (h:=aH (j5.b 0) (k:=cS 3 (fun rM=>?_) fun rM=>?_))))
 exact ae 2 (h:=ck (us:=[ak 0,ak 0,av Bs.zero.w0,av Bs.zero.w1,av Bs.zero.w2,av Bs.zero.w3,ak 0,ak 0]) (k:=aU 0 (h:=bC j5 1 (k:=fun VD kY=>fx 4 (h1:=cK (kY.b 1)) (h2:=cZ) (h:=⟨(⟨0,0,Bs.zero,0,0⟩:Tk),0,rfl,kY.ag,(by first|exact fZ.zero (nL oz ((show gT=false by simpa using rM)▸FF) rfl)|exact fZ.zero (nK oz ((show EW=false by simpa using rM)▸oH) rfl))⟩)))))
 refine eI 3 j5 (h:=fun Ob ja=>cP 2 2 (ja.b 0) (D:=fun _ hC=>b8 hC) (h:=gZ 0 3 (D:=fun _=>ck) (h:=cP 1 5 (ja.b 0) (D:=fun _ hC=>aH hC) (h:=c7 0 6 (D:=bC ja 1 (k:=fun Oa lX=>?_))))))
 refine ⟨⟨(lX.b 0),trivial,trivial⟩,?_⟩
 exact cG 3 [5,4] (h:=fx 1 (h1:=cK (lX.b 1)) (h2:=cZ) (h:=⟨(⟨1,((a:Nat):Int),Sz,0,0⟩:Tk),Xk,rfl,lX.ag,(by first|exact mG.of ha (nL oz FF rfl) (by simpa using rM)|exact mG.of ha (nK oz oH rfl) (by simpa using rM)|exact so ha oz rfl|exact pX ha XO oz oz oz oz oz oz oz rfl)⟩))
 refine aL 6 (fun Da=>?_) fun Da=>?_
 refine ae 1 (h:=aM (c:=gA _ 10 _ 10 iV oz oz oz oz) (k:=?_))
 rintro _ WT ⟨rfl,WU⟩
 have oV:=cW.call WU
 refine ae 0 (h:=aM (c:=Es (bM 10 10) WT) (k:=?_))
 rintro _ WS ⟨rfl,u24⟩
 have mJ:=oV.call u24
 refine aU 1 (h:=bC mJ 0 (k:=fun Z1 mI=>ae 7 (h:=aH (mI.b 0) (k:=eI 7 mI (h:=fun Z0 mH=>cP 2 2 (mH.b 0) (D:=fun _ hC=>b8 hC) (h:=gZ 0 3 (D:=fun _=>ck) (h:=cP 1 5 (mH.b 0) (D:=fun _ hC=>aH hC) (h:=c7 0 6 (D:=bC mH 1 (k:=fun w33 oM=>?_))))))))))
 refine ⟨⟨(oM.b 0),trivial,trivial⟩,?_⟩
 exact cG 3 [5,4] (h:=fx 1 (h1:=cK (oM.b 1)) (h2:=cZ) (h:=⟨(⟨1,((a:Nat):Int),gF (bM 10 10),0,0⟩:Tk),((a:Nat):Int)+1,rfl,oM.ag,(by first|exact mG.of ha (nL oz FF rfl) (by simpa using rM)|exact mG.of ha (nK oz oH rfl) (by simpa using rM)|exact so ha oz rfl|exact pX ha XO oz oz oz oz oz oz oz rfl)⟩))
 refine ae 7 (h:=aH (cW.b 0) (k:=eI 7 cW (h:=fun w34 qO=>cP 2 2 (qO.b 0) (D:=fun _ hC=>b8 hC) (h:=gZ 0 3 (D:=fun _=>ck) (h:=cP 1 5 (qO.b 0) (D:=fun _ hC=>aH hC) (h:=c7 0 6 (D:=bC qO 1 (k:=fun w35 tN=>?_))))))))
 refine ⟨⟨(tN.b 0),trivial,trivial⟩,?_⟩
 exact cG 3 [5,4] (h:=fx 1 (h1:=cK (tN.b 1)) (h2:=cZ) (h:=⟨(⟨1,((a:Nat):Int),bM (bn p a) (bn p a),0,0⟩:Tk),((a:Nat):Int)+1,rfl,tN.ag,(by first|exact mG.of ha (nL oz FF rfl) (by simpa using rM)|exact mG.of ha (nK oz oH rfl) (by simpa using rM)|exact so ha oz rfl|exact pX ha XO oz oz oz oz oz oz oz rfl)⟩))
theorem Tt (p:ByteArray) (w:World):
 Calls Tryz.prog 49 #[.string p] w (bj fun v w'=>∃a2 c2,∃o:List Tk,∃at_ er,v= .tuple #[aG a2 o c2,ak at_,ak er]∧aE w [] w' [cg dT 131 a2 o c2]∧(eS p ⟨o,at_,er⟩)∧(o.length≤200)):=by
 refine cL Tryz.func49 (h:=fun H0=>aL 15 (fun ait=>?_) fun ait=>?_)
 exact nP 8 (h:=⟨none,0,[],0,4,rfl,ej H0,(AF oz),(Nat.zero_le _)⟩)
 have H1:=H0.nr dT 131
 refine cY 14 [6,5,4,3,2,0] (fun B R L m e v=>∃aI,∃o:List Tk,∃oa oc,e=(6,ak aI)::(5,aG oa o oc)::B∧aA w L v ([cg dT 131 oa o oc]::R)∧(0≤aI∧aI≤p.size)∧(∀r,j1 p (Int.toNat aI) o r→j1 p 0 [] r)∧(o.length≤Int.toNat aI)∧m=p.size-Int.toNat aI) (i:=⟨0,([]:List Tk),none,0,rfl,H1,oz,(by exact fun r h=>h),(by simp),rfl⟩) (h:=?_)
 rintro m1 Γ1 w1 ⟨aI,o,oa,oc,rfl,H2,hi0,hI,GR,rfl⟩
 refine aL 9 (fun aiq=>?_) fun aiq=>?_
 refine ae 7 (h:=aM (c:=W7 _ _ aI.toNat w1 oz oz oz) (k:=?_))
 rintro _ w2 ⟨t_1,eW,rfl,u1,Qv⟩
 have H3:=H2.call u1
 refine ae 3 (h:=da H3 (k:=fun w3 H4=>aU 0 (h:=bC H4 1 (k:=fun w4 H5=>aL 10 (fun aip=>?_) fun aip=>?_))))
 exact nP 9 (h:=⟨none,0,[],aI,3,rfl,ej H5,(L4 oz oz oz hI Qv oz),(Nat.zero_le _)⟩)
 have jn:=Hq oz oz hI Qv oz
 refine ae 5 (h:=b8 (H5.b 1) (k:=ae 0 (h:=db dT ([t_1]:List Tk) H5 (k:=fun w5 H6=>ae 0 (h:=fT H6 0 (H6.rt 2) (k:=fun a1 c1 w6 Vt=>?_))))))
 have H7:=(Vt.drop 2).no
 exact b6 8 (h:=by exact ⟨eW,o++([t_1]:List Tk),a1,c1,rfl,(H7.pm [0] rfl rfl),oz,(by exact jn.1),gv,rfl⟩)
 exact nP 11 (h:=⟨oa,oc,o,0,0,rfl,H2.iz 0,(AG oz oz hI),oz⟩)
theorem Pz (la:aO) (l:List Tk) (lc:Nat) (end_:Int) (w:World) (rl:bH dT w (.slice la l.length lc) l) (hl:l.length≤1000):
   Calls Tryz.prog 54 #[.slice la l.length lc,.int .i64 end_] w (bj fun v w'=>∃a2:aO,∃c2:Nat,∃o:List Nd,∃at_:Int,∃er:Int,v= .tuple #[.slice a2 o.length c2,.int .i64 at_,.int .i64 er]∧aE w [] w' [aj aJ (.slice a2 o.length c2) 89 o]∧(GI l end_ o at_ er)):=by
  refine bj.calls (TF la l lc end_ w rl hl) ?_
  rintro v w' ⟨a2,c2,n2,o,at_,er,rfl,u,h⟩
  have hn:n2=o.length:=(cQ (aE.hp u) (List.mem_singleton.2 rfl)).len
  subst hn
  exact ⟨a2,c2,o,at_,er,rfl,u,h⟩
theorem OZ (la:aO) (l:List Tk) (lc:Nat) (end_:Int) (w:World) (rl:bH dT w (.slice la l.length lc) l) (hl:l.length≤1000):
   Calls Tryz.prog 50 #[.slice la l.length lc,.int .i64 end_] w (bj fun v w'=>∃a2:aO,∃c2:Nat,∃o:List Nd,∃at_:Int,∃er:Int,v= .tuple #[.slice a2 o.length c2,.int .i64 at_,.int .i64 er]∧aE w [] w' [aj aJ (.slice a2 o.length c2) 89 o]∧(GI l end_ o at_ er)):=by
  refine bj.calls (Tv la l lc end_ w rl hl) ?_
  rintro v w' ⟨a2,c2,n2,o,at_,er,rfl,u,h⟩
  have hn:n2=o.length:=(cQ (aE.hp u) (List.mem_singleton.2 rfl)).len
  subst hn
  exact ⟨a2,c2,o,at_,er,rfl,u,h⟩
theorem EM (p:ByteArray) (w:World) (rT:cd fh w (some ⟨0,0,none⟩) rG 64) (lw:Laid w):
 Calls Tryz.prog 34 #[.string p] w (bj fun v w'=>∃a2 c2,∃o:List Nd,∃at_ er,v= .tuple #[aG a2 o c2,ak at_,ak er]∧aE w [] w' [cg aJ 89 a2 o c2]∧(lW p o at_ er)):=by
 have kH:=rT.le
 refine cL Tryz.func34 (h:=fun H0=>ae 10 (h:=aM (c:=Ha _ w (rT.at H0) (lw.at H0)) (k:=?_)))
 rintro _ w1 ⟨bN,cv,mV,oK,lM,rfl,u1,Qu,Fx⟩
 have H1:=H0.ns u1
 refine aL 16 (fun j0=>?_) fun j0=>?_
 exact nP 10 (h:=⟨none,0,[],oK,lM,rfl,ej H1,⟨_,_,_,Qu,.inl ⟨by omega,rfl,rfl,rfl⟩⟩⟩)
 refine ae 7 (h:=aM (c:=Pz bN mV _ _ w1 (H1.rt 0) oz) (k:=?_))
 rintro _ w2 ⟨gW,jB,o_2,BK,qK,rfl,u2,QA⟩
 have H2:=H1.ns u2
 exact nP 9 (h:=⟨gW,jB,o_2,BK,qK,rfl,H2.iz 1,⟨_,_,_,Qu,.inr ⟨by omega,QA⟩⟩⟩)
theorem sq (p:ByteArray) (w:World):
 Calls Tryz.prog 32 #[.string p] w (bj fun v w'=>∃a2 c2,∃o:List Nd,∃at_ er,v= .tuple #[aG a2 o c2,ak at_,ak er]∧aE w [] w' [cg aJ 89 a2 o c2]∧(lW p o at_ er)):=by
 refine cL Tryz.func32 (h:=fun H0=>ae 10 (h:=aM (c:=Tt _ w) (k:=?_)))
 rintro _ w1 ⟨bN,cv,mV,oK,lM,rfl,u1,Qu,Fx⟩
 have H1:=H0.ns u1
 refine aL 16 (fun Jl=>?_) fun Jl=>?_
 exact nP 10 (h:=⟨none,0,[],oK,lM,rfl,ej H1,⟨_,_,_,Qu,.inl ⟨by omega,rfl,rfl,rfl⟩⟩⟩)
 refine ae 7 (h:=aM (c:=OZ bN mV _ _ w1 (H1.rt 0) oz) (k:=?_))
 rintro _ w2 ⟨gW,jB,o_2,BK,qK,rfl,u2,QA⟩
 have H2:=H1.ns u2
 exact nP 9 (h:=⟨gW,jB,o_2,BK,qK,rfl,H2.iz 1,⟨_,_,_,Qu,.inr ⟨by omega,QA⟩⟩⟩)
end Go.Proofs.YtpbgmkhmdbchpaaGreatDoor
namespace Go.Sx
theorem VF {p:Prop} (h:p:=by congr 1;simp only [List.length_append,List.length_singleton];omega):p:=h
theorem oZ {p:Prop} (h:p:=by first|omega|(simp only [cC,List.length_append,List.length_singleton];omega)):p:=h
end Go.Sx
namespace Go.Proofs.YtpbgmkhmdbchpaaGreatDoor
open Go Go.Sx
theorem lC (g:Nat) (la:aO) (l:List Nd) (lc:Nat) (oa:aO) (o:List ay) (oc:Nat) (on:Nat) (t:ay) (w:World) (hp:Hp w [bm g #[aG la l lc,.slice oa on oc] 189,aj aP (.slice oa on oc) 193 o]) (hb:o.length≤200000):
 Calls Tryz.prog 150 #[.pointer (some ⟨g,0,none⟩),.agg #[ak t.kind,ak t.a,ak t.b,av t.set.w0,av t.set.w1,av t.set.w2,av t.set.w3]] w (bj fun v w'=>∃gD gC,∃gh:Nat,v=bJ o.length∧aE w [bm g #[aG la l lc,.slice oa on oc] 189,aj aP (.slice oa on oc) 193 o] w' [bm g #[aG la l lc,.slice gD gh gC] 189,aj aP (.slice gD gh gC) 193 (o++[t])]):=by
 obtain rfl:on=o.length:=(cQ hp (List.mem_of_getElem? (i:=1) rfl)).len
 refine uZ hp Tryz.func150 (h:=fun H0=>ae 2 (h:=gI H0 (k:=fun w1 H1=>eI 4 H1 (h:=fun w2 H2=>cP 4 4 (H2.b 0) (D:=fun _ hC=>aH hC) (h:=cP 0 5 (H2.b 2) (D:=fun _ hC=>b8 hC) (h:=c7 0 6 (D:=db aP ([t]:List ay) H2 (k:=fun w3 H3=>?_))))))))
 refine ⟨⟨(H3.b 0),trivial,trivial,trivial,trivial,trivial⟩,?_⟩
 refine c7 0 7 (D:=fT H3 1 (H3.rt 3) (hb:=b9) (gk:=b9) (k:=fun a1 c1 w4 GK=>?_))
 have H4:=(GK.drop 3).no
 refine ⟨⟨trivial,trivial⟩,?_⟩
 refine c7 2 10 (D:=jA H4 0 (k:=fun w5 H5=>?_))
 refine ⟨trivial,?_⟩
 exact ae 7 (h:=aH (H5.b 0) (k:=ae 1 (h:=jK (h1:=b9) (h2:=b9) (k:=bE 4 (h:=⟨a1,c1,(o++([t]:List ay)).length,VF,(H5.se [0,1])⟩)))))
theorem lE (g:Nat) (la:aO) (l:List Nd) (lc:Nat) (oa:aO) (o:List ay) (oc:Nat) (on:Nat) (w:World) (hp:Hp w [bm g #[aG la l lc,.slice oa on oc] 189,aj aP (.slice oa on oc) 193 o]) (hb:o.length≤200000):
 Calls Tryz.prog 151 #[.pointer (some ⟨g,0,none⟩)] w (bj fun v w'=>∃gD gC,∃gh:Nat,v=bJ o.length∧aE w [bm g #[aG la l lc,.slice oa on oc] 189,aj aP (.slice oa on oc) 193 o] w' [bm g #[aG la l lc,.slice gD gh gC] 189,aj aP (.slice gD gh gC) 193 (o++[emp])]):=by
 obtain rfl:on=o.length:=(cQ hp (List.mem_of_getElem? (i:=1) rfl)).len
 refine uZ hp Tryz.func151 (h:=fun H0=>ae 8 (h:=ck (us:=[ak 2,ak 0,ak 0,av Bs.zero.w0,av Bs.zero.w1,av Bs.zero.w2,av Bs.zero.w3]) (k:=?_)))
 have H1:aA _ _ _ [[_,_]]:=aA.of (aE.j7 H0 (l:=[0,1]) rfl rfl) rfl
 refine ae 0 (h:=aM (c:=lC _ la l lc oa o oc o.length (⟨2,0,0,Bs.zero⟩:ay) w (H1.dH 0) hb) (k:=?_))
 rintro _ w1 ⟨fz,fy,il,rfl,u1⟩
 have H2:=H1.un 0 u1
 exact bE 4 (h:=⟨fz,fy,il,rfl,(H2.se [0,1])⟩)
theorem kP (g:Nat) (la:aO) (l:List Nd) (lc:Nat) (oa:aO) (o:List ay) (oc:Nat) (on:Nat) (iI:Int) (i:Nat) (vv:Int) (w:World) (hp:Hp w [bm g #[aG la l lc,.slice oa on oc] 189,aj aP (.slice oa on oc) 193 o]) (lO:iI=((i:Nat):Int)) (hi:i<o.length):
 Calls Tryz.prog 149 #[.pointer (some ⟨g,0,none⟩),ak iI,ak vv] w (bj fun v w'=>∃gD gC,∃gh:Nat,v= .tuple #[]∧aE w [bm g #[aG la l lc,.slice oa on oc] 189,aj aP (.slice oa on oc) 193 o] w' [bm g #[aG la l lc,.slice gD gh gC] 189,aj aP (.slice gD gh gC) 193 (dv o i vv)]):=by
 subst lO
 obtain rfl:on=o.length:=(cQ hp (List.mem_of_getElem? (i:=1) rfl)).len
 exact uZ hp Tryz.func149 (h:=fun H0=>ae 4 (h:=aH (H0.b 0) (k:=ae 2 (h:=fI i (H0.rt 1) (k:=ae 0 (h:=iL (H0.rt 1) (k:=aU 0 (h:=DE (⟨(o.getD i aq).kind,vv,(o.getD i aq).b,(o.getD i aq).set⟩:ay) H0 1 (k:=fun w1 H1=>GN 1 (h:=⟨oa,oc,o.length,rfl,(H1.se [0,1])⟩))))))))))
theorem qd (g:Nat) (la:aO) (l:List Nd) (lc:Nat) (oa:aO) (o:List ay) (oc:Nat) (on:Nat) (t:ay) (w:World) (hp:Hp w [bm g #[aG la l lc,.slice oa on oc] 189,aj aP (.slice oa on oc) 193 o]) (hb:o.length≤100000):
 Calls Tryz.prog 148 #[.pointer (some ⟨g,0,none⟩),.agg #[ak t.kind,ak t.a,ak t.b,av t.set.w0,av t.set.w1,av t.set.w2,av t.set.w3]] w (bj fun v w'=>∃gD gC,∃gh:Nat,v= .tuple #[bJ o.length,bJ (o++[t]).length]∧aE w [bm g #[aG la l lc,.slice oa on oc] 189,aj aP (.slice oa on oc) 193 o] w' [bm g #[aG la l lc,.slice gD gh gC] 189,aj aP (.slice gD gh gC) 193 (dv ((o++[t])++[emp]) o.length (((o++[t]).length:Nat):Int))]):=by
 obtain rfl:on=o.length:=(cQ hp (List.mem_of_getElem? (i:=1) rfl)).len
 refine uZ hp Tryz.func148 (h:=fun H0=>ae 2 (h:=gI H0 (k:=fun w1 H1=>ae 7 (h:=b8 (H1.b 2) (k:=?_)))))
 have H2:aA _ _ _ [[_,_],[_]]:=aA.of (aE.j7 H1 (l:=[0,1,2]) rfl rfl) rfl
 refine ae 0 (h:=aM (c:=lC _ la l lc oa o oc o.length t w1 (H2.dH 0) b9) (k:=?_))
 rintro _ w2 ⟨fz,fy,il,rfl,u2⟩
 have H3:=H2.un 0 u2
 refine ae 6 (h:=aM (c:=lE _ la l lc fz (o++[t]) fy il w2 (H3.dH 0) b9) (k:=?_))
 rintro _ w3 ⟨sA,sy,qR,rfl,u3⟩
 have H4:=H3.un 0 u3
 refine ae 8 (h:=aM (c:=kP _ la l lc sA ((o++[t])++[emp]) sy qR _ o.length _ w3 (H4.dH 0) oz b9) (k:=?_))
 rintro _ w4 ⟨x7,x6,x5,rfl,u4⟩
 have H5:=H4.un 0 u4
 exact gr 11 (h:=⟨x7,x6,x5,rfl,(H5.se [0,1])⟩)
theorem ye (g:Nat) (la:aO) (l:List Nd) (lc:Nat) (oa:aO) (o:List ay) (oc:Nat) (on:Nat) (iI:Int) (i:Nat) (T:Tr) (N:Nat) (w:World) (hp:Hp w [bm g #[aG la l lc,.slice oa on oc] 189,aj aP (.slice oa on oc) 193 o]) (rl:cd aJ w la l lc) (lO:iI=((i:Nat):Int)) (hT:Sub l i T) (bX:fo T) (hz:o.length+aQ T≤100000) (hl:l.length≤512) (dJ:fb (aG la l lc) [bm g #[aG la l lc,.slice oa on oc] 189,aj aP (.slice oa on oc) 193 o]) (hN:2*i<N+1) (sT:∀(g:Nat) (la:aO) (l:List Nd) (lc:Nat) (oa:aO) (o:List ay) (oc:Nat) (on:Nat) (iI:Int) (i:Nat) (T:Tr) (w:World) (hp:Hp w [bm g #[aG la l lc,.slice oa on oc] 189,aj aP (.slice oa on oc) 193 o]) (rl:cd aJ w la l lc) (lO:iI=((i:Nat):Int)) (hT:Sub l i T) (bX:fo T) (hz:o.length+aQ T≤100000) (hl:l.length≤512) (dJ:fb (aG la l lc) [bm g #[aG la l lc,.slice oa on oc] 189,aj aP (.slice oa on oc) 193 o]) (cX:2*i<N),Calls Tryz.prog 110 #[.pointer (some ⟨g,0,none⟩),ak iI] w (bj fun v w'=>∃gD gC,∃gh:Nat,v= .tuple #[bJ (ao T o).first,bJ (ao T o).last]∧aE w [bm g #[aG la l lc,.slice oa on oc] 189,aj aP (.slice oa on oc) 193 o] w' [bm g #[aG la l lc,.slice gD gh gC] 189,aj aP (.slice gD gh gC) 193 ((ao T o).s)])) (Bh:∀(g:Nat) (la:aO) (l:List Nd) (lc:Nat) (oa:aO) (o:List ay) (oc:Nat) (on:Nat) (n:Nd) (kI:Int) (k:Nat) (A:Tr) (w:World) (hp:Hp w [bm g #[aG la l lc,.slice oa on oc] 189,aj aP (.slice oa on oc) 193 o]) (rl:cd aJ w la l lc) (IZ:kI=((k:Nat):Int)) (hT:Sub l k A) (bX:fo A) (hn:0≤n.lo∧n.lo≤32∧(n.hi= -1∨n.lo≤n.hi∧n.hi≤32)) (hz:o.length+(2+n.lo.toNat*aQ A+(if n.hi<0 then aQ A+1 else (n.hi-n.lo).toNat*(aQ A+1)))≤100000) (hl:l.length≤512) (dJ:fb (aG la l lc) [bm g #[aG la l lc,.slice oa on oc] 189,aj aP (.slice oa on oc) 193 o]) (cX:2*k+1<N),Calls Tryz.prog 152 #[.pointer (some ⟨g,0,none⟩),.agg #[ak n.kind,av n.set.w0,av n.set.w1,av n.set.w2,av n.set.w3,ak n.lo,ak n.hi],ak kI] w (bj fun v w'=>∃gD gC,∃gh:Nat,v= .tuple #[bJ (fO (ao A) n o).first,bJ (fO (ao A) n o).last]∧aE w [bm g #[aG la l lc,.slice oa on oc] 189,aj aP (.slice oa on oc) 193 o] w' [bm g #[aG la l lc,.slice gD gh gC] 189,aj aP (.slice gD gh gC) 193 ((fO (ao A) n o).s)])):
 Calls Tryz.prog 110 #[.pointer (some ⟨g,0,none⟩),ak iI] w (bj fun v w'=>∃gD gC,∃gh:Nat,v= .tuple #[bJ (ao T o).first,bJ (ao T o).last]∧aE w [bm g #[aG la l lc,.slice oa on oc] 189,aj aP (.slice oa on oc) 193 o] w' [bm g #[aG la l lc,.slice gD gh gC] 189,aj aP (.slice gD gh gC) 193 ((ao T o).s)]):=by
 subst lO
 obtain rfl:on=o.length:=(cQ hp (List.mem_of_getElem? (i:=1) rfl)).len
 have hi:=hT.2.1
 have hTl:=hT.le
 have dD:=rl.le
 refine uZ hp Tryz.func110 (h:=fun H0=>ae 11 (h:=aH (H0.b 0) (k:=ae 1 (h:=aM (c:=AI la l lc _ i T w (rl.keep H0.keep dJ) oz hT) (k:=?_)))))
 rintro _ w1 ⟨bN,cv,rfl,u1⟩
 have H1:=H0.ns u1
 refine ae 9 (h:=aH (H1.b 0) (k:=ae 1 (h:=fI i (rl.keep H1.keep dJ) (k:=ae 0 (h:=zt (rl.keep H1.keep dJ) (k:=ae 0 (h:=da H1 (k:=fun w2 H2=>aU 0 (h:=bC H2 3 (k:=fun w3 H3=>ae 5 (h:=aH (H3.b 3) (k:=aL 9 (fun c74=>?_) fun c74=>?_))))))))))))
 refine ae 4 (h:=b8 (H3.b 3) (k:=ae 0 (h:=ck (k:=?_))))
 have H4:aA _ _ _ [[_,_],[_],[_]]:=aA.of (aE.j7 H3 (l:=[0,1,2,3]) rfl rfl) rfl
 refine ae 0 (h:=aM (c:=qd _ la l lc oa o oc o.length (⟨1,0,0,(l.getD i cb).set⟩:ay) w3 (H4.dH 0) oz) (k:=?_))
 rintro _ w4 ⟨fz,fy,il,rfl,u4⟩
 have H5:=H4.un 0 u4
 refine gr 7 (h:=?_)
 obtain ⟨n5,gV,c0⟩:=lj hT oz
 have Bi:=hT.1
 rw [gV] at Bi
 simp only [Tr.wk] at Bi
 rw [c0] at Bi
 have oP:=c8.set bX.root
 rw [gV] at oP
 have e:=wE (n:=n5) (o:=o) (t:=⟨1,0,0,(l.getD i cb).set⟩) (by unfold iC;simp only;rw [c0];split<;>(try split)<;>omega) rfl (by rw [c0])
 rw [gV,e]
 exact ⟨fz,fy,il,rfl,(H5.se [0,1])⟩
 refine aL 6 (fun c76=>?_) fun c76=>?_
 refine ae 3 (h:=ck (us:=[ak 4,ak 0,ak 0,av Bs.zero.w0,av Bs.zero.w1,av Bs.zero.w2,av Bs.zero.w3]) (k:=?_))
 have H6:aA _ _ _ [[_,_],[_],[_]]:=aA.of (aE.j7 H3 (l:=[0,1,2,3]) rfl rfl) rfl
 refine ae 0 (h:=aM (c:=qd _ la l lc oa o oc o.length (⟨4,0,0,Bs.zero⟩:ay) w3 (H6.dH 0) oz) (k:=?_))
 rintro _ w5 ⟨sA,sy,qR,rfl,u5⟩
 have H7:=H6.un 0 u5
 refine gr 7 (h:=?_)
 obtain ⟨n5,gV,c0⟩:=lj hT oz
 have Bi:=hT.1
 rw [gV] at Bi
 simp only [Tr.wk] at Bi
 rw [c0] at Bi
 have oP:=c8.set bX.root
 rw [gV] at oP
 have e:=wE (n:=n5) (o:=o) (t:=⟨4,0,0,Bs.zero⟩) (by unfold iC;simp only;rw [c0];split<;>(try split)<;>omega) rfl (by exact (oP (by show¬n5.kind=1;rw [c0];omega)).symm)
 rw [gV,e]
 exact ⟨sA,sy,qR,rfl,(H7.se [0,1])⟩
 refine aL 6 (fun c78=>?_) fun c78=>?_
 refine ae 3 (h:=ck (us:=[ak 5,ak 0,ak 0,av Bs.zero.w0,av Bs.zero.w1,av Bs.zero.w2,av Bs.zero.w3]) (k:=?_))
 have H8:aA _ _ _ [[_,_],[_],[_]]:=aA.of (aE.j7 H3 (l:=[0,1,2,3]) rfl rfl) rfl
 refine ae 0 (h:=aM (c:=qd _ la l lc oa o oc o.length (⟨5,0,0,Bs.zero⟩:ay) w3 (H8.dH 0) oz) (k:=?_))
 rintro _ w6 ⟨x7,x6,x5,rfl,u6⟩
 have H9:=H8.un 0 u6
 refine cG 6 [5,4] (h:=gr 1 (h:=?_))
 obtain ⟨n5,gV,c0⟩:=lj hT oz
 have Bi:=hT.1
 rw [gV] at Bi
 simp only [Tr.wk] at Bi
 rw [c0] at Bi
 have oP:=c8.set bX.root
 rw [gV] at oP
 have e:=wE (n:=n5) (o:=o) (t:=⟨5,0,0,Bs.zero⟩) (by unfold iC;simp only;rw [c0];split<;>(try split)<;>omega) rfl (by exact (oP (by show¬n5.kind=1;rw [c0];omega)).symm)
 rw [gV,e]
 exact ⟨x7,x6,x5,rfl,(H9.se [0,1])⟩
 refine aL 6 (fun Ws=>?_) fun Ws=>?_
 obtain ⟨n5,a5,b5,gV,c0,Bm,QD,FC,SM,QC,uz,uy⟩:=mZ hT oz
 have Ue:=eX a5 o
 have zz:=eX b5 (ao a5 o).s
 have MU:fo a5:=by subst gV;exact bX.oR
 have NV:fo b5:=by subst gV;exact bX.oQ
 have XI:aQ T=aQ a5+aQ b5:=by rw [gV];exact xx (by rw [c0];omega)
 refine ae 4 (h:=bU 0 (H3.rt 2) (k:=ae 0 (h:=cn (H3.rt 2) (k:=?_))))
 have bO:aA _ _ _ [[_,_],[_],[_]]:=aA.of (aE.j7 H3 (l:=[0,1,2,3]) rfl rfl) rfl
 refine ae 0 (h:=aM (c:=sT _ la l lc oa o oc o.length _ (((aY T i).getD 0 0).toNat) a5 w3 (bO.dH 0) (rl.keep bO.keep dJ) oz (by first|exact uz|exact uy) (by first|exact MU|exact NV) oz hl (fb.of dJ rl oz bO 0 rfl) oz) (k:=?_))
 rintro _ w7 ⟨E4,E0,EV,rfl,u7⟩
 have bR:=bO.un 0 u7
 refine cG 7 [9,8,6,5,4,0] (h:=ae 4 (h:=bU 1 (bR.rt 1) (k:=ae 0 (h:=cn (bR.rt 1) (k:=ae 0 (h:=aM (c:=sT _ la l lc E4 ((ao a5 o).s) E0 EV _ (((aY T i).getD 1 0).toNat) b5 w7 (bR.dH 0) (rl.keep bR.keep dJ) oz (by first|exact uz|exact uy) (by first|exact MU|exact NV) oz hl (fb.of dJ rl oz bR 0 rfl) oz) (k:=?_)))))))
 rintro _ w8 ⟨E3,EZ,EU,rfl,u8⟩
 have cm:=bR.un 0 u8
 refine ae 12 (h:=aM (c:=kP _ la l lc E3 ((ao b5 ((ao a5 o).s)).s) EZ EU _ ((ao a5 o).last) _ w8 (cm.dH 0) oz oZ) (k:=?_))
 rintro _ w9 ⟨E2,EY,ET,rfl,u9⟩
 have cW:=cm.un 0 u9
 refine gr 11 (h:=?_)
 rw [gV,Il (by rw [c0];omega)]
 exact ⟨E2,EY,ET,rfl,(cW.se [0,1])⟩
 refine cG 6 [78,30,7,6,5,4,0] (h:=aL 0 (fun c85=>?_) fun c85=>?_)
 obtain ⟨n5,a5,b5,gV,c0,Bm,QD,FC,SM,QC,uz,uy⟩:=mZ hT oz
 have Ue:=eX a5 o
 have zz:=eX b5 (ao a5 o).s
 have MU:fo a5:=by subst gV;exact bX.oR
 have NV:fo b5:=by subst gV;exact bX.oQ
 have XI:aQ T=aQ a5+aQ b5+2:=by rw [gV];exact xw (by rw [c0];omega)
 refine ae 4 (h:=bU 0 (H3.rt 2) (k:=ae 0 (h:=cn (H3.rt 2) (k:=?_))))
 have cH:aA _ _ _ [[_,_],[_],[_]]:=aA.of (aE.j7 H3 (l:=[0,1,2,3]) rfl rfl) rfl
 refine ae 0 (h:=aM (c:=sT _ la l lc oa o oc o.length _ (((aY T i).getD 0 0).toNat) a5 w3 (cH.dH 0) (rl.keep cH.keep dJ) oz (by first|exact uz|exact uy) (by first|exact MU|exact NV) oz hl (fb.of dJ rl oz cH 0 rfl) oz) (k:=?_))
 rintro _ gK ⟨E1,EX,ES,rfl,qZ⟩
 have cI:=cH.un 0 qZ
 refine ae 11 (h:=bU 1 (cI.rt 1) (k:=ae 0 (h:=cn (cI.rt 1) (k:=ae 0 (h:=aM (c:=sT _ la l lc E1 ((ao a5 o).s) EX ES _ (((aY T i).getD 1 0).toNat) b5 gK (cI.dH 0) (rl.keep cI.keep dJ) oz (by first|exact uz|exact uy) (by first|exact MU|exact NV) oz hl (fb.of dJ rl oz cI 0 rfl) oz) (k:=?_))))))
 rintro _ iu ⟨PQ,PN,PJ,rfl,zJ⟩
 have cT:=cI.un 0 zJ
 refine ae 12 (h:=ck (us:=[ak 3,bJ (ao a5 o).first,bJ (ao b5 ((ao a5 o).s)).first,av Bs.zero.w0,av Bs.zero.w1,av Bs.zero.w2,av Bs.zero.w3]) (k:=ae 0 (h:=aM (c:=lC _ la l lc PQ ((ao b5 ((ao a5 o).s)).s) PN PJ (⟨3,(((ao a5 o).first:Nat):Int),(((ao b5 ((ao a5 o).s)).first:Nat):Int),Bs.zero⟩:ay) iu (cT.dH 0) oZ) (k:=?_))))
 rintro _ iW ⟨PO,PM,PI,rfl,xh⟩
 have dj:=cT.un 0 xh
 refine cG 3 [4,15,13,5,0] (h:=ae 3 (h:=aM (c:=lE _ la l lc PO (((ao b5 ((ao a5 o).s)).s)++[(⟨3,(((ao a5 o).first:Nat):Int),(((ao b5 ((ao a5 o).s)).first:Nat):Int),Bs.zero⟩:ay)]) PM PI iW (dj.dH 0) oZ) (k:=?_)))
 rintro _ iV ⟨HV,HR,HN,rfl,BS⟩
 have dY:=dj.un 0 BS
 refine ae 8 (h:=aM (c:=kP _ la l lc HV ((((ao b5 ((ao a5 o).s)).s)++[(⟨3,(((ao a5 o).first:Nat):Int),(((ao b5 ((ao a5 o).s)).first:Nat):Int),Bs.zero⟩:ay)])++[emp]) HR HN _ ((ao a5 o).last) _ iV (dY.dH 0) oz oZ) (k:=?_))
 rintro _ lT ⟨HU,HQ,HM,rfl,S5⟩
 have eJ:=dY.un 0 S5
 refine ae 7 (h:=aM (c:=kP _ la l lc HU (dv ((((ao b5 ((ao a5 o).s)).s)++[(⟨3,(((ao a5 o).first:Nat):Int),(((ao b5 ((ao a5 o).s)).first:Nat):Int),Bs.zero⟩:ay)])++[emp]) ((ao a5 o).last) (((((ao b5 ((ao a5 o).s)).s)++[(⟨3,(((ao a5 o).first:Nat):Int),(((ao b5 ((ao a5 o).s)).first:Nat):Int),Bs.zero⟩:ay)]).length:Nat):Int)) HQ HM _ ((ao b5 ((ao a5 o).s)).last) _ lT (eJ.dH 0) oz oZ) (k:=?_))
 rintro _ qx ⟨HT,HP,HL,rfl,Oj⟩
 have dB:=eJ.un 0 Oj
 refine gr 11 (h:=?_)
 rw [gV,P5 (by rw [c0];omega) rfl]
 exact ⟨HT,HP,HL,rfl,(dB.se [0,1])⟩
 refine aL 6 (fun c93=>?_) fun c93=>?_
 obtain ⟨n5,a5,gV,c0,Bm,QD,FC,uz⟩:=yo hT oz
 have MU:fo a5:=by subst gV;exact bX.rep
 have Fy:=c8.rep (n:=n5) (by subst gV;exact bX.root) (by rw [c0];omega)
 rw [c0] at Fy
 have XI:aQ T=2+(l.getD i cb).lo.toNat*aQ a5+(if (l.getD i cb).hi<0 then aQ a5+1 else ((l.getD i cb).hi-(l.getD i cb).lo).toNat*(aQ a5+1)):=by rw [gV,c0];exact tP _ _
 refine eI 1 H3 (h:=fun qw gu=>cP 1 1 (gu.b 3) (D:=fun _ hC=>b8 hC) (h:=bY 1 3 (gu.rt 2) (D:=fun _ hC=>bU 0 hC) (h:=bY 0 4 (gu.rt 2) (D:=fun _ hC=>cn hC) (h:=?_))))
 have gQ:aA _ _ _ [[_,_],[_],[_]]:=aA.of (aE.j7 gu (l:=[0,1,2,3]) rfl rfl) rfl
 refine c7 0 5 (D:=aM (c:=Bh _ la l lc oa o oc o.length (l.getD i cb) _ (((aY T i).getD 0 0).toNat) a5 qw (gQ.dH 0) (rl.keep gQ.keep dJ) oz uz MU Fy (by rw [XI] at hz;exact hz) hl (fb.of dJ rl oz gQ 0 rfl) oz) (k:=?_))
 rintro _ uW ⟨HS,HO,HK,rfl,u16⟩
 have jy:=gQ.un 0 u16
 refine ⟨trivial,?_⟩
 refine gr 7 (h:=?_)
 rw [gV,P4,c0]
 exact ⟨HS,HO,HK,rfl,(jy.se [0,1])⟩
 refine ae 6 (h:=ck (us:=[ak 2,ak 0,ak 0,av Bs.zero.w0,av Bs.zero.w1,av Bs.zero.w2,av Bs.zero.w3]) (k:=?_))
 have lv:aA _ _ _ [[_,_],[_],[_]]:=aA.of (aE.j7 H3 (l:=[0,1,2,3]) rfl rfl) rfl
 refine ae 0 (h:=aM (c:=qd _ la l lc oa o oc o.length (⟨2,0,0,Bs.zero⟩:ay) w3 (lv.dH 0) oz) (k:=?_))
 rintro _ zI ⟨Xj,Xi,Xh,rfl,LG⟩
 have j5:=lv.un 0 LG
 refine gr 7 (h:=?_)
 obtain ⟨n5,gV,c0⟩:=lj hT oz
 have Bi:=hT.1
 rw [gV] at Bi
 simp only [Tr.wk] at Bi
 rw [c0] at Bi
 have oP:=c8.set bX.root
 rw [gV] at oP
 have e:=wE (n:=n5) (o:=o) (t:=⟨2,0,0,Bs.zero⟩) (by unfold iC;simp only;rw [c0];split<;>(try split)<;>omega) rfl (by exact (oP (by show¬n5.kind=1;rw [c0];omega)).symm)
 rw [gV,e]
 exact ⟨Xj,Xi,Xh,rfl,(j5.se [0,1])⟩
theorem zU (g:Nat) (la:aO) (l:List Nd) (lc:Nat) (oa:aO) (o:List ay) (oc:Nat) (on:Nat) (n:Nd) (kI:Int) (k:Nat) (A:Tr) (N:Nat) (w:World) (hp:Hp w [bm g #[aG la l lc,.slice oa on oc] 189,aj aP (.slice oa on oc) 193 o]) (rl:cd aJ w la l lc) (IZ:kI=((k:Nat):Int)) (hT:Sub l k A) (bX:fo A) (hn:0≤n.lo∧n.lo≤32∧(n.hi= -1∨n.lo≤n.hi∧n.hi≤32)) (hz:o.length+(2+n.lo.toNat*aQ A+(if n.hi<0 then aQ A+1 else (n.hi-n.lo).toNat*(aQ A+1)))≤100000) (hl:l.length≤512) (dJ:fb (aG la l lc) [bm g #[aG la l lc,.slice oa on oc] 189,aj aP (.slice oa on oc) 193 o]) (hN:2*k+1<N+1) (sT:∀(g:Nat) (la:aO) (l:List Nd) (lc:Nat) (oa:aO) (o:List ay) (oc:Nat) (on:Nat) (iI:Int) (i:Nat) (T:Tr) (w:World) (hp:Hp w [bm g #[aG la l lc,.slice oa on oc] 189,aj aP (.slice oa on oc) 193 o]) (rl:cd aJ w la l lc) (lO:iI=((i:Nat):Int)) (hT:Sub l i T) (bX:fo T) (hz:o.length+aQ T≤100000) (hl:l.length≤512) (dJ:fb (aG la l lc) [bm g #[aG la l lc,.slice oa on oc] 189,aj aP (.slice oa on oc) 193 o]) (cX:2*i<N),Calls Tryz.prog 110 #[.pointer (some ⟨g,0,none⟩),ak iI] w (bj fun v w'=>∃gD gC,∃gh:Nat,v= .tuple #[bJ (ao T o).first,bJ (ao T o).last]∧aE w [bm g #[aG la l lc,.slice oa on oc] 189,aj aP (.slice oa on oc) 193 o] w' [bm g #[aG la l lc,.slice gD gh gC] 189,aj aP (.slice gD gh gC) 193 ((ao T o).s)])) (Bh:∀(g:Nat) (la:aO) (l:List Nd) (lc:Nat) (oa:aO) (o:List ay) (oc:Nat) (on:Nat) (n:Nd) (kI:Int) (k:Nat) (A:Tr) (w:World) (hp:Hp w [bm g #[aG la l lc,.slice oa on oc] 189,aj aP (.slice oa on oc) 193 o]) (rl:cd aJ w la l lc) (IZ:kI=((k:Nat):Int)) (hT:Sub l k A) (bX:fo A) (hn:0≤n.lo∧n.lo≤32∧(n.hi= -1∨n.lo≤n.hi∧n.hi≤32)) (hz:o.length+(2+n.lo.toNat*aQ A+(if n.hi<0 then aQ A+1 else (n.hi-n.lo).toNat*(aQ A+1)))≤100000) (hl:l.length≤512) (dJ:fb (aG la l lc) [bm g #[aG la l lc,.slice oa on oc] 189,aj aP (.slice oa on oc) 193 o]) (cX:2*k+1<N),Calls Tryz.prog 152 #[.pointer (some ⟨g,0,none⟩),.agg #[ak n.kind,av n.set.w0,av n.set.w1,av n.set.w2,av n.set.w3,ak n.lo,ak n.hi],ak kI] w (bj fun v w'=>∃gD gC,∃gh:Nat,v= .tuple #[bJ (fO (ao A) n o).first,bJ (fO (ao A) n o).last]∧aE w [bm g #[aG la l lc,.slice oa on oc] 189,aj aP (.slice oa on oc) 193 o] w' [bm g #[aG la l lc,.slice gD gh gC] 189,aj aP (.slice gD gh gC) 193 ((fO (ao A) n o).s)])):
 Calls Tryz.prog 152 #[.pointer (some ⟨g,0,none⟩),.agg #[ak n.kind,av n.set.w0,av n.set.w1,av n.set.w2,av n.set.w3,ak n.lo,ak n.hi],ak kI] w (bj fun v w'=>∃gD gC,∃gh:Nat,v= .tuple #[bJ (fO (ao A) n o).first,bJ (fO (ao A) n o).last]∧aE w [bm g #[aG la l lc,.slice oa on oc] 189,aj aP (.slice oa on oc) 193 o] w' [bm g #[aG la l lc,.slice gD gh gC] 189,aj aP (.slice gD gh gC) 193 ((fO (ao A) n o).s)]):=by
 subst IZ
 obtain rfl:on=o.length:=(cQ hp (List.mem_of_getElem? (i:=1) rfl)).len
 have FA:=eX A
 have Bm:=hT.2.1
 have hz0:o.length+2+n.lo.toNat*aQ A≤100000:=(by split at hz<;>omega)
 have dD:=rl.le
 refine uZ hp Tryz.func152 (h:=fun H0=>ae 2 (h:=gI H0 (k:=fun w1 H1=>?_)))
 have H2:aA _ _ _ [[_,_],[_]]:=aA.of (aE.j7 H1 (l:=[0,1,2]) rfl rfl) rfl
 refine ae 7 (h:=aM (c:=lE _ la l lc oa o oc o.length w1 (H2.dH 0) oZ) (k:=?_))
 rintro _ w2 ⟨fz,fy,il,rfl,u2⟩
 have H3:=H2.un 0 u2
 refine ae 13 (h:=aH (H3.b 1) (k:=?_))
 have H4:=H3.sn
 refine cY 4 [25,8,24,6,7,4,0,2] (fun B R L m e v=>∃j ah,∃q:List ay,∃qa qc,∃qn:Nat,e=(25,bJ j)::(8,bJ ah)::B∧aA w L v ([bm g #[aG la l lc,.slice qa qn qc] 189]::[aj aP (.slice qa qn qc) 193 q]::R)∧(j≤n.lo.toNat)∧(fe (ao A) j (o++[emp],o.length)=(q,ah))∧m=n.lo.toNat-j) (i:=⟨0,o.length,o++[emp],fz,fy,il,rfl,H4,om,rfl,rfl⟩) (h:=?_)
 rintro m1 Γ1 w3 ⟨j,ah,q,qa,qc,qn,rfl,H5,hj,hr,rfl⟩
 have QB:=KD FA hr hj
 have hmq:=FA q
 refine aL 6 (fun SR=>?_) fun SR=>?_
 have H6:aA _ _ _ [[_,_],[_]]:=aA.of (aE.j7 H5 (l:=[0,1,2]) rfl rfl) rfl
 refine ae 8 (h:=aM (c:=sT _ la l lc qa q qc qn _ k A w3 (H6.dH 0) (rl.keep H6.keep dJ) oz hT bX oz hl (fb.of dJ rl oz H6 0 rfl) oz) (k:=?_))
 rintro _ w4 ⟨sA,sy,qR,rfl,u3⟩
 have H7:=H6.un 0 u3
 refine ae 12 (h:=aM (c:=kP _ la l lc sA ((ao A q).s) sy qR _ ah _ w4 (H7.dH 0) oz oZ) (k:=?_))
 rintro _ w5 ⟨x7,x6,x5,rfl,u4⟩
 have H8:=H7.un 0 u4
 exact ae 9 (h:=aX (k:=b6 2 (h:=by exact ⟨j+1,(ao A q).last,dv ((ao A q).s) ah (((ao A q).first:Nat):Int),x7,x6,x5,rfl,(H8.re rfl),om,(by exact KC hr),rfl⟩)))
 have hje:j=n.lo.toNat:=by omega
 rw [hje] at hr
 have H9:=H5.nr (aw .i64) 3
 have bO:=H9.ps [0,1,3,2]
 refine mK 7 [6,0] 3 bO (fun B R L e v=>∃Qe,∃sI:List Int,∃OL OK,∃q3:List ay,∃TD TC,∃TB:Nat,e=(11,aG OL sI OK)::(7,bJ Qe)::B∧aA w L v ([bm g #[aG la l lc,.slice TD TB TC] 189]::[aj aP (.slice TD TB TC) 193 q3]::[cg (aw .i64) 3 OL sI OK]::R)∧(NF (ao A) n o q3 sI Qe)∧(Qe<1000000)∧(sI.length≤100)) ?_ ?_
 refine ae 3 (h:=aH (bO.b 3) (k:=aL 3 (fun DJ=>?_) fun DJ=>?_))
 try rw [if_pos DJ] at hz
 have bR:aA _ _ _ [[_,_],[_],[_]]:=aA.of (aE.j7 bO (l:=[0,1,2,3]) rfl rfl) rfl
 refine ae 4 (h:=aM (c:=sT _ la l lc qa q qc qn _ k A w3 (bR.dH 0) (rl.keep bR.keep dJ) oz hT bX oz hl (fb.of dJ rl oz bR 0 rfl) oz) (k:=?_))
 rintro _ w6 ⟨E4,E0,EV,rfl,u5⟩
 have cm:=bR.un 0 u5
 refine ae 11 (h:=ck (us:=[ak 3,bJ (ao A q).first,ak 0,av Bs.zero.w0,av Bs.zero.w1,av Bs.zero.w2,av Bs.zero.w3]) (k:=ae 0 (h:=aM (c:=lC _ la l lc E4 ((ao A q).s) E0 EV (⟨3,(((ao A q).first:Nat):Int),0,Bs.zero⟩:ay) w6 (cm.dH 0) oZ) (k:=?_))))
 rintro _ w7 ⟨E3,EZ,EU,rfl,u6⟩
 have cW:=cm.un 0 u6
 refine ae 8 (h:=aM (c:=kP _ la l lc E3 (((ao A q).s)++[(⟨3,(((ao A q).first:Nat):Int),0,Bs.zero⟩:ay)]) EZ EU _ ah _ w7 (cW.dH 0) oz oZ) (k:=?_))
 rintro _ w8 ⟨E2,EY,ET,rfl,u7⟩
 have cH:=cW.un 0 u7
 refine ae 6 (h:=db (aw .i64) [((((ao A q).s).length:Nat):Int)] cH (k:=fun w9 cI=>ae 0 (h:=fT cI 1 (cI.rt 3) (hb:=b9) (gk:=b9) (k:=fun a1 c1 gK Ss=>?_))))
 have cT:=(Ss.drop 3).no
 refine cG 5 [11,14,13,6,7,0] (h:=ae 3 (h:=aM (c:=lE _ la l lc E2 (dv (((ao A q).s)++[(⟨3,(((ao A q).first:Nat):Int),0,Bs.zero⟩:ay)]) ah ((((ao A q).s).length:Nat):Int)) EY ET gK (cT.dH 0) oZ) (k:=?_)))
 rintro _ iu ⟨E1,EX,ES,rfl,qZ⟩
 have dj:=cT.un 0 qZ
 refine ae 7 (h:=aM (c:=kP _ la l lc E1 ((dv (((ao A q).s)++[(⟨3,(((ao A q).first:Nat):Int),0,Bs.zero⟩:ay)]) ah ((((ao A q).s).length:Nat):Int))++[emp]) EX ES _ ((ao A q).last) _ iu (dj.dH 0) oz oZ) (k:=?_))
 rintro _ iW ⟨PQ,PN,PJ,rfl,zJ⟩
 have dY:=dj.un 0 zJ
 exact cy 1 (h:=by exact ⟨(dv (((ao A q).s)++[(⟨3,(((ao A q).first:Nat):Int),0,Bs.zero⟩:ay)]) ah ((((ao A q).s).length:Nat):Int)).length,([]:List Int)++[((((ao A q).s).length:Nat):Int)],a1,c1,dv ((dv (((ao A q).s)++[(⟨3,(((ao A q).first:Nat):Int),0,Bs.zero⟩:ay)]) ah ((((ao A q).s).length:Nat):Int))++[emp]) ((ao A q).last) ((((ao A q).s).length:Nat):Int),PQ,PN,PJ,rfl,(dY.re rfl),(by first|exact Ey FA DJ hr rfl|exact xP FA DJ hr QB.2.1 iK NT),oZ,(by first|omega|simp)⟩)
 try rw [if_neg DJ] at hz
 refine ae 4 (h:=aH (bO.b 3) (k:=ae 1 (h:=aH (bO.b 3) (k:=ae 0 (h:=jK (k:=cY 4 [72,11,8,71,6,7,0,2] (fun B R L m e v=>∃j2 fm,∃sp:List Nat,∃sI:List Int,∃OL OK,∃q2:List ay,∃Pr Pq,∃Pp:Nat,e=(72,bJ j2)::(11,aG OL sI OK)::(8,bJ fm)::B∧aA w L v ([bm g #[aG la l lc,.slice Pr Pp Pq] 189]::[aj aP (.slice Pr Pp Pq) 193 q2]::[cg (aw .i64) 3 OL sI OK]::R)∧(j2≤(n.hi-n.lo).toNat)∧(dr (ao A) j2 (q,ah)=(q2,fm,sp))∧(sI=mA sp)∧m=(n.hi-n.lo).toNat-j2) (i:=⟨0,ah,([]:List Nat),([]:List Int),none,0,q,qa,qc,qn,rfl,bO,om,rfl,rfl,rfl⟩) (h:=?_)))))))
 rintro m2 Γ2 iV ⟨j2,fm,sp,sI,OL,OK,q2,Pr,Pq,Pp,rfl,eJ,Ab,iK,NT,rfl⟩
 have hhf:=wK FA QB.2.1 iK Ab
 have agV:=FA q2
 have agu:sI.length=sp.length:=by rw [NT];exact sL sp
 try rw [if_neg DJ] at hz
 refine aL 6 (fun c55=>?_) fun c55=>?_
 have dB:aA _ _ _ [[_,_],[_],[_]]:=aA.of (aE.j7 eJ (l:=[0,1,2,3]) rfl rfl) rfl
 refine ae 8 (h:=aM (c:=sT _ la l lc Pr q2 Pq Pp _ k A iV (dB.dH 0) (rl.keep dB.keep dJ) oz hT bX oz hl (fb.of dJ rl oz dB 0 rfl) oz) (k:=?_))
 rintro _ lT ⟨PO,PM,PI,rfl,xh⟩
 have gu:=dB.un 0 xh
 refine ae 11 (h:=ck (us:=[ak 3,bJ (ao A q2).first,ak 0,av Bs.zero.w0,av Bs.zero.w1,av Bs.zero.w2,av Bs.zero.w3]) (k:=ae 0 (h:=aM (c:=lC _ la l lc PO ((ao A q2).s) PM PI (⟨3,(((ao A q2).first:Nat):Int),0,Bs.zero⟩:ay) lT (gu.dH 0) oZ) (k:=?_))))
 rintro _ qx ⟨HV,HR,HN,rfl,BS⟩
 have gQ:=gu.un 0 BS
 refine ae 8 (h:=aM (c:=kP _ la l lc HV (((ao A q2).s)++[(⟨3,(((ao A q2).first:Nat):Int),0,Bs.zero⟩:ay)]) HR HN _ fm _ qx (gQ.dH 0) oz oZ) (k:=?_))
 rintro _ qw ⟨HU,HQ,HM,rfl,S5⟩
 have jy:=gQ.un 0 S5
 refine ae 5 (h:=db (aw .i64) [((((ao A q2).s).length:Nat):Int)] jy (k:=fun uW lv=>ae 0 (h:=fT lv 1 (lv.rt 3) (hb:=b9) (gk:=b9) (k:=fun a2 c2 zI ZU=>?_))))
 have j5:=(ZU.drop 3).no
 refine cG 6 [8,11,72,71,6,7,0,2] (h:=?_)
 try rw [if_neg DJ] at hz
 exact ae 1 (h:=aX (k:=b6 2 (h:=by exact ⟨j2+1,(ao A q2).last,sp++[(ao A q2).s.length],sI++[((((ao A q2).s).length:Nat):Int)],a2,c2,dv (((ao A q2).s)++[(⟨3,(((ao A q2).first:Nat):Int),0,Bs.zero⟩:ay)]) fm ((((ao A q2).s).length:Nat):Int),HU,HQ,HM,rfl,(j5.re rfl),om,(by exact KS iK),(by rw [NT,sM];rfl),rfl⟩)))
 have X3:j2=(n.hi-n.lo).toNat:=by omega
 rw [X3] at iK
 have kY:aA _ _ _ [[_,_],[_],[_]]:=aA.of (aE.j7 eJ (l:=[0,1,2,3]) rfl rfl) rfl
 refine ae 5 (h:=aM (c:=lE _ la l lc Pr q2 Pq Pp iV (kY.dH 0) oZ) (k:=?_))
 rintro _ zo ⟨HT,HP,HL,rfl,LG⟩
 have ja:=kY.un 0 LG
 refine ae 7 (h:=aM (c:=kP _ la l lc HT (q2++[emp]) HP HL _ fm _ zo (ja.dH 0) oz oZ) (k:=?_))
 rintro _ DV ⟨HS,HO,HK,rfl,WV⟩
 have lX:=ja.un 0 WV
 exact cy 1 (h:=by exact ⟨q2.length,sI,OL,OK,dv (q2++[emp]) fm ((q2.length:Nat):Int),HS,HO,HK,rfl,(lX.re rfl),(by first|exact Ey FA DJ hr rfl|exact xP FA DJ hr QB.2.1 iK NT),oZ,(by first|omega|simp)⟩)
 rintro Γ3 Od ⟨Qe,tR,ajn,ajm,q3,TD,TC,TB,rfl,oV,hRE,KO,hsl⟩
 obtain ⟨sp,T7,XN,hrp⟩:=hRE
 have alI:tR.length=sp.length:=by rw [T7];exact sL sp
 refine cY 9 [102,101,100,7,6,0] (fun B R L m e v=>∃j3,∃q4:List ay,∃Po Pl,∃Pj:Nat,e=(102,bJ j3)::B∧aA w L v ([bm g #[aG la l lc,.slice Po Pj Pl] 189]::[aj aP (.slice Po Pj Pl) 193 q4]::R)∧(j3≤tR.length)∧(q4=fq q3 (sp.take j3) ((Qe:Nat):Int))∧m=tR.length-j3) (i:=⟨0,q3,TD,TC,TB,rfl,oV,om,rfl,rfl⟩) (h:=?_)
 rintro m3 Γ4 LD ⟨j3,q4,Po,Pl,Pj,rfl,mJ,hj3,XU,rfl⟩
 have agF:q4.length=q3.length:=by rw [XU];exact mQ _ _ _
 refine aL 6 (fun U8=>?_) fun U8=>?_
 refine ae 6 (h:=bU j3 (mJ.rt 2) (k:=ae 0 (h:=cn (mJ.rt 2) (k:=?_))))
 have hgj:tR.getD j3 0=((sp.getD j3 0:Nat):Int):=by rw [T7];exact yg sp j3
 have hgb:=XN _ (au (d:=0) (show j3<sp.length by omega))
 exact ae 7 (h:=aH (mJ.b 0) (k:=ae 2 (h:=fI ((tR.getD j3 0).toNat) (mJ.rt 1) (cN:=oz) (k:=ae 0 (h:=iL (mJ.rt 1) (k:=aU 0 (h:=DE (⟨(q4.getD ((tR.getD j3 0).toNat) aq).kind,(q4.getD ((tR.getD j3 0).toNat) aq).a,((Qe:Nat):Int),(q4.getD ((tR.getD j3 0).toNat) aq).set⟩:ay) mJ 1 (k:=fun LC mI=>ae 4 (h:=aX (k:=b6 2 (h:=by exact ⟨j3+1,q4.set ((tR.getD j3 0).toNat) (⟨(q4.getD ((tR.getD j3 0).toNat) aq).kind,(q4.getD ((tR.getD j3 0).toNat) aq).a,((Qe:Nat):Int),(q4.getD ((tR.getD j3 0).toNat) aq).set⟩:ay),Po,Pl,Pj,rfl,mI,om,(by rw [xz _ oz,←XU,←show (tR.getD j3 0).toNat=sp.getD j3 0 by omega];rfl),rfl⟩)))))))))))
 refine gr 11 (h:=?_)
 have e4:q4=fq q3 sp ((Qe:Nat):Int):=by rw [XU,List.take_of_length_le oz]
 rw [hrp,←e4]
 exact ⟨Po,Pl,Pj,rfl,(mJ.se [0,1])⟩
theorem zV (N:Nat):(∀(g:Nat) (la:aO) (l:List Nd) (lc:Nat) (oa:aO) (o:List ay) (oc:Nat) (on:Nat) (iI:Int) (i:Nat) (T:Tr) (w:World) (hp:Hp w [bm g #[aG la l lc,.slice oa on oc] 189,aj aP (.slice oa on oc) 193 o]) (rl:cd aJ w la l lc) (lO:iI=((i:Nat):Int)) (hT:Sub l i T) (bX:fo T) (hz:o.length+aQ T≤100000) (hl:l.length≤512) (dJ:fb (aG la l lc) [bm g #[aG la l lc,.slice oa on oc] 189,aj aP (.slice oa on oc) 193 o]) (cX:2*i<N),Calls Tryz.prog 110 #[.pointer (some ⟨g,0,none⟩),ak iI] w (bj fun v w'=>∃gD gC,∃gh:Nat,v= .tuple #[bJ (ao T o).first,bJ (ao T o).last]∧aE w [bm g #[aG la l lc,.slice oa on oc] 189,aj aP (.slice oa on oc) 193 o] w' [bm g #[aG la l lc,.slice gD gh gC] 189,aj aP (.slice gD gh gC) 193 ((ao T o).s)]))∧(∀(g:Nat) (la:aO) (l:List Nd) (lc:Nat) (oa:aO) (o:List ay) (oc:Nat) (on:Nat) (n:Nd) (kI:Int) (k:Nat) (A:Tr) (w:World) (hp:Hp w [bm g #[aG la l lc,.slice oa on oc] 189,aj aP (.slice oa on oc) 193 o]) (rl:cd aJ w la l lc) (IZ:kI=((k:Nat):Int)) (hT:Sub l k A) (bX:fo A) (hn:0≤n.lo∧n.lo≤32∧(n.hi= -1∨n.lo≤n.hi∧n.hi≤32)) (hz:o.length+(2+n.lo.toNat*aQ A+(if n.hi<0 then aQ A+1 else (n.hi-n.lo).toNat*(aQ A+1)))≤100000) (hl:l.length≤512) (dJ:fb (aG la l lc) [bm g #[aG la l lc,.slice oa on oc] 189,aj aP (.slice oa on oc) 193 o]) (cX:2*k+1<N),Calls Tryz.prog 152 #[.pointer (some ⟨g,0,none⟩),.agg #[ak n.kind,av n.set.w0,av n.set.w1,av n.set.w2,av n.set.w3,ak n.lo,ak n.hi],ak kI] w (bj fun v w'=>∃gD gC,∃gh:Nat,v= .tuple #[bJ (fO (ao A) n o).first,bJ (fO (ao A) n o).last]∧aE w [bm g #[aG la l lc,.slice oa on oc] 189,aj aP (.slice oa on oc) 193 o] w' [bm g #[aG la l lc,.slice gD gh gC] 189,aj aP (.slice gD gh gC) 193 ((fO (ao A) n o).s)])):=by
 induction N with
 | zero=>exact ⟨(by intro g la l lc oa o oc on iI i T w hp rl lO hT bX hz hl dJ cX;omega),(by intro g la l lc oa o oc on n kI k A w hp rl IZ hT bX hn hz hl dJ cX;omega)⟩
 | succ N ih=>
 obtain ⟨sT,Bh⟩:=ih
 exact ⟨(by intro g la l lc oa o oc on iI i T w hp rl lO hT bX hz hl dJ cX;exact ye g la l lc oa o oc on iI i T N w hp rl lO hT bX hz hl dJ cX sT Bh),(by intro g la l lc oa o oc on n kI k A w hp rl IZ hT bX hn hz hl dJ cX;exact zU g la l lc oa o oc on n kI k A N w hp rl IZ hT bX hn hz hl dJ cX sT Bh)⟩
theorem Mt (g:Nat) (la:aO) (l:List Nd) (lc:Nat) (oa:aO) (o:List ay) (oc:Nat) (on:Nat) (iI:Int) (i:Nat) (T:Tr) (w:World) (hp:Hp w [bm g #[aG la l lc,.slice oa on oc] 189,aj aP (.slice oa on oc) 193 o]) (rl:cd aJ w la l lc) (lO:iI=((i:Nat):Int)) (hT:Sub l i T) (bX:fo T) (hz:o.length+aQ T≤100000) (hl:l.length≤512) (dJ:fb (aG la l lc) [bm g #[aG la l lc,.slice oa on oc] 189,aj aP (.slice oa on oc) 193 o]):
 Calls Tryz.prog 110 #[.pointer (some ⟨g,0,none⟩),ak iI] w (bj fun v w'=>∃gD gC,∃gh:Nat,v= .tuple #[bJ (ao T o).first,bJ (ao T o).last]∧aE w [bm g #[aG la l lc,.slice oa on oc] 189,aj aP (.slice oa on oc) 193 o] w' [bm g #[aG la l lc,.slice gD gh gC] 189,aj aP (.slice gD gh gC) 193 ((ao T o).s)]):=(zV (2*i+1)).1 g la l lc oa o oc on iI i T w hp rl lO hT bX hz hl dJ oz
end Go.Proofs.YtpbgmkhmdbchpaaGreatDoor
