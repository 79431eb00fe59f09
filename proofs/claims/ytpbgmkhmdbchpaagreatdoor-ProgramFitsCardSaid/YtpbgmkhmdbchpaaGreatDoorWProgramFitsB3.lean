/- Rounds within a split, a task, the start and the end of parting states into blocks. Conditions: those of each theorem. -/
import Derived.Test.YtpbgmkhmdbchpaaGreatDoorWProgramFitsB2
import Derived.ProofKit
import Derived.OpenShut
import Derived.ShutString
import Derived.ChangeOld
import Derived.Below
import Derived.SizedLaws
import Derived.Deep.Slices
import Derived.Deep.CondSized
import Derived.Test.YtpbgmkhmdbchpaaGreatDoorProg
import Derived.KernelRfl
import Derived.Shelf.Small.Bits
import Derived.Shelf.Small.Wraps
import Derived.Shelf.Strconv.Itoa0
import Derived.Shelf.Strings.Search1
import Derived.Shelf.Strings.Search2
import Derived.Shelf.Strings.Cut
import Derived.Shelf.LaysM
import Derived.Shelf.Strings.Shaped
import Derived.Shelf.Sort.Plain
import Derived.Shelf.Strings.Prefix
import Derived.Shelf.Slices.Reverse
import Derived.Shelf.Slices.Equal
import Derived.Ground.Names2Prog
import Derived.Shelf.Slices.Clone
import Derived.Shelf.Slices.CompactI
import Derived.Shelf.Slices.SearchI
import Derived.Shelf.Slices.Cells
import Derived.Shelf.Slices.In.SortNone
import Derived.Shelf.Slices.Empties2
import Derived.Ground.SlgnProg
import Derived.Shelf.SlicesE.Clone
set_option linter.unusedVariables false
set_option linter.unusedSimpArgs false
set_option linter.unusedSectionVars false
set_option maxRecDepth 20000
namespace Go.Sx
open Go Go.Sx
structure ZS (l:List Int) (K:Nat) (la:aP) (ln lc:Nat) (bl:List Int) (ms:List (LR Int)) (wt:List (LR Bool)) (pe:List Int) (ph:List (LR Bool)):Prop where
  bll:pe.length=bl.length
  bv:∀i,i<bl.length→pe.getD i 0=if (i:Int)∈l then (ms.length:Int) else bl.getD i 0
  wl:ph.length=wt.length+1
  wo:∀i,i<wt.length→ph.getD i ae=wt.getD i ae
  wn:(ph.getD wt.length ae).xs=List.replicate K false
theorem mP {α:Type} {X:List (LR α)} {p:LR α} :(X++[p]).getD X.length ae=p:=by simp [List.getD_eq_getElem?_getD]
theorem lS {α:Type} {X Y:List (LR α)} {i:Nat} (h:i<X.length):(X++Y).getD i ae=X.getD i ae:=by simp only [List.getD_eq_getElem?_getD,List.getElem?_append_left h]
structure Q3 (l:List Int) (v:Int) (bl pe:List Int) (k:Nat):Prop where
  len:pe.length=bl.length
  val:∀i,i<bl.length→pe.getD i 0=if (i:Int)∈l.take k then v else bl.getD i 0
theorem Q3.start (l:List Int) (v:Int) (bl:List Int):Q3 l v bl bl 0:=⟨rfl,fun i hi=>by simp⟩
theorem Q3.step {l:List Int} {v:Int} {bl pe:List Int} {k:Nat} (h:Q3 l v bl pe k) (hk:k<l.length) (hx:0≤l.getD k 0∧l.getD k 0<(bl.length:Int)):Q3 l v bl (pe.set (l.getD k 0).toNat v) (k+1):=by
  refine ⟨by simp [h.len],fun i hi=>?_⟩
  rw [lR (by rw [h.len];omega),bS 0 hk,h.val i hi]
  by_cases e:(l.getD k 0).toNat=i
  · rw [if_pos e,if_pos]
    simp only [List.mem_append,List.mem_singleton]
    exact .inr oz
  · rw [if_neg e]
    by_cases e2:(i:Int)∈l.take k
    · rw [if_pos e2,if_pos (List.mem_append_left _ e2)]
    · rw [if_neg e2,if_neg]
      simp only [List.mem_append,List.mem_singleton]
      rintro (h9|h9)
      · exact e2 h9
      · exact e oz
theorem Q3.fin {l:List Int} {v:Int} {bl pe:List Int} {k:Nat} (h:Q3 l v bl pe k) (hk:¬k<l.length):∀i,i<bl.length→pe.getD i 0=if (i:Int)∈l then v else bl.getD i 0:=fun i hi=>by
  have:=h.val i hi
  rwa [List.take_of_length_le oz] at this
structure OI (b K:Nat) (nN:List (LR Bool)) (r6:List (Int×Int)) (wt:List (LR Bool)) (td:List (Int×Int)) (c:Nat):Prop where
  wl:wt.length=nN.length+1
  wr:∀i,i<nN.length+1→(wt.getD i ae).xs.length=K
  wk:∀i k,i<nN.length→k<K→cG nN i k=true→cG wt i k=true
  wn:∀i k,i<nN.length+1→k<K→cG wt i k=true→(i<nN.length∧cG nN i k=true)∨(((i:Nat):Int),((k:Nat):Int))∈td
  ws:∀k,k<c→(cG nN b k=true→cG wt nN.length k=true)∧(cG wt b k=true∨cG wt nN.length k=true)
  un:∀k,c≤k→k<K→cG wt b k=cG nN b k
  tl:td.length=r6.length+c
  tk:∀t,t∈r6→t∈td
  tb:∀t:Int×Int,t∈td→t∈r6∨((t.1=(b:Int)∨t.1=(nN.length:Int))∧(0≤t.2∧t.2<(K:Int)))
theorem wM {X:List (LR Bool)} {i K k:Nat} (h:(X.getD i ae).xs=List.replicate K false):cG X i k=false:=by
  unfold cG;rw [h]
  simp only [List.getD_eq_getElem?_getD,List.getElem?_replicate]
  split<;>rfl
theorem OI.start {b K:Nat} {nN wt:List (LR Bool)} {r6:List (Int×Int)} (hw:∀i,i<nN.length→(nN.getD i ae).xs.length=K) (hb:b<nN.length) (h1:wt.length=nN.length+1) (h2:∀i,i<nN.length→wt.getD i ae=nN.getD i ae) (h3:(wt.getD nN.length ae).xs=List.replicate K false):
    OI b K nN r6 wt r6 0:=by
  have hc:∀i k,i<nN.length→cG wt i k=cG nN i k:=fun i k hi=>by unfold cG;rw [h2 i hi]
  refine ⟨h1,fun i hi=>?_,fun i k hi hk h=>by rw [hc i k hi];exact h,fun i k hi hk h=>?_,fun k hk=>by omega,fun k _ _=>hc b k hb,rfl,fun t h=>h,fun t h=> .inl h⟩
  · by_cases e:i=nN.length
    · subst e;rw [h3];simp
    · rw [h2 i oz];exact hw i oz
  · by_cases e:i=nN.length
    · subst e;rw [wM h3] at h;cases h
    · exact .inl ⟨by omega,by rw [←hc i k oz];exact h⟩
theorem OI.put {b K x:Nat} {nN wt ph:List (LR Bool)} {r6 td:List (Int×Int)} {c:Nat} (h:OI b K nN r6 wt td c) (hb:b<nN.length) (hc:c<K) (hx:x=b∨x=nN.length) (hold:cG nN b c=true→x=nN.length) (s:rS wt x c true ph):
    OI b K nN r6 ph (td++[(((x:Nat):Int),((c:Nat):Int))]) (c+1):=by
  have up:∀i k,cG wt i k=true→cG ph i k=true:=fun i k h9=>by rw [s.val];split;rfl;exact h9
  refine ⟨by rw [s.len];exact h.wl,fun i hi=>by rw [s.row];exact h.wr i hi,fun i k hi hk h9=>up i k (h.wk i k hi hk h9),fun i k hi hk h9=>?_,fun k hk=>?_,fun k hk tD=>?_,by simp [h.tl];omega,fun t ht=>List.mem_append_left _ (h.tk t ht),fun t ht=>?_⟩
  · rw [s.val] at h9
    split at h9
    · rename_i e;obtain ⟨rfl,rfl⟩:=e;exact .inr (by simp)
    · rcases h.wn i k hi hk h9 with h8|h8
      · exact .inl h8
      · exact .inr (List.mem_append_left _ h8)
  · by_cases e:k=c
    · subst e
      have e1:cG ph x k=true:=by rw [s.val,if_pos ⟨rfl,rfl⟩]
      refine ⟨fun h9=>by rw [←hold h9];exact e1,?_⟩
      rcases hx with rfl|rfl
      · exact .inl e1
      · exact .inr e1
    · have h9:=h.ws k oz
      refine ⟨fun h8=>up _ _ (h9.1 h8),?_⟩
      rcases h9.2 with h8|h8
      · exact .inl (up _ _ h8)
      · exact .inr (up _ _ h8)
  · rw [s.val,if_neg (fun e=>by omega)];exact h.un k oz tD
  · rcases List.mem_append.1 ht with h9|h9
    · exact h.tb t h9
    · rw [List.mem_singleton.1 h9]
      exact .inr ⟨by simp only;omega,by simp only;omega⟩
theorem OI.fin {b K:Nat} {out:List Int} {bl pe:List Int} {ms zX:List (LR Int)} {nN wt:List (LR Bool)} {r6 td:List (Int×Int)} {c:Nat} (h:OI b K nN r6 wt td c) (hc:c=K) (JL:zX.length=ms.length+1)
    (Tz:fv zX b=(fv ms b).filter (fun x=> !decide (x∈out))) (Fy:fv zX ms.length=out) (VM:∀i,i<ms.length→i≠b→zX.getD i ae=ms.getD i ae) (KG:pe.length=bl.length) (hbv:∀i,i<bl.length→pe.getD i 0=if (i:Int)∈out then (ms.length:Int) else bl.getD i 0):
    QY b out K bl ms r6 nN pe zX td wt:=by
  subst hc
  exact ⟨JL,Tz,Fy,VM,KG,hbv,h.wl,h.wr,h.wk,h.wn,fun k hk=>h.ws k hk,h.tl,h.tk,h.tb⟩
def sb (F:List (LR (LR Int))) (c:Nat) (t:Int):List Int:=((F.getD c ae).xs.getD t.toNat ae).xs
structure xh (d:au) (F:List (LR (LR Int))):Prop where
  len:F.length=(aZ d).length
  row:∀k,k<F.length→(F.getD k ae).xs.length=d.acc.length
  mem:∀k,k<F.length→∀t:Nat,t<d.acc.length→∀x:Int,x∈sb F k (t:Int)↔∃i:Nat,i<d.acc.length∧x=(i:Int)∧dl d k i=t
  nd:∀k,k<F.length→∀t:Nat,t<d.acc.length→(sb F k (t:Int)).Nodup
def qE (F:List (LR (LR Int))) (c:Nat) (mT:List Int) (q r:Nat):List Int:=(mT.take q).flatMap (sb F c)++(sb F c (mT.getD q 0)).take r
theorem qE.step {F:List (LR (LR Int))} {c q r:Nat} {mT:List Int} (h:r<(sb F c (mT.getD q 0)).length):qE F c mT q (r+1)=qE F c mT q r++[(sb F c (mT.getD q 0)).getD r 0]:=by
  unfold qE;rw [bS 0 h,List.append_assoc]
theorem qE.next {F:List (LR (LR Int))} {c q r:Nat} {mT:List Int} (hq:q<mT.length) (h:¬r<(sb F c (mT.getD q 0)).length):qE F c mT (q+1) 0=qE F c mT q r:=by
  unfold qE;rw [bS 0 hq,List.flatMap_append,List.take_of_length_le (l:=sb F c (mT.getD q 0)) oz];simp
theorem qE.zero (F:List (LR (LR Int))) (c:Nat) (mT:List Int):qE F c mT 0 0=[]:=by simp [qE]
theorem qE.all {F:List (LR (LR Int))} {c q:Nat} {mT:List Int} (hq:¬q<mT.length):qE F c mT q 0=mT.flatMap (sb F c):=by
  unfold qE;rw [List.take_of_length_le oz];simp
theorem Pb {d:au} {F:List (LR (LR Int))} {bl:List Int} {ms:List (LR Int)} (hF:xh d F) (hp:nD d.acc.length bl ms) {c t:Nat} (hc:c<F.length) (ht:t<ms.length) (hr:aD d=true) (x:Int):
    x∈(fv ms t).flatMap (sb F c)↔∃i:Nat,i<d.acc.length∧x=(i:Int)∧bl.getD (dl d c i) 0=(t:Int):=by
  rw [List.mem_flatMap]
  constructor
  · rintro ⟨y,hy,hx⟩
    obtain ⟨j,hj,rfl,e⟩:=(hp.mem t ht y).1 hy
    obtain ⟨i,hi,rfl,e2⟩:=(hF.mem c hc j hj x).1 hx
    exact ⟨i,hi,rfl,by rw [e2];exact e⟩
  · rintro ⟨i,hi,rfl,e⟩
    have hl:=(k4 hr (k:=c) (by rw [←hF.len];exact hc) hi).1
    exact ⟨((dl d c i:Nat):Int),(hp.mem t ht _).2 ⟨_,hl,rfl,e⟩,(hF.mem c hc _ hl _).2 ⟨i,hi,rfl,rfl⟩⟩
theorem wj {α β:Type} {f:α→List β} :∀ {l:List α},l.Nodup→(∀x,x∈l→(f x).Nodup)→(∀x y z,x∈l→y∈l→z∈f x→z∈f y→x=y)→(l.flatMap f).Nodup
  | [],_,_,_=>by simp
  | a::l,hn,h1,h2=>by
    have KE:=List.nodup_cons.1 hn
    rw [List.flatMap_cons]
    refine List.nodup_append.2 ⟨h1 a List.mem_cons_self,wj KE.2 (fun x hx=>h1 x (List.mem_cons_of_mem _ hx)) (fun x y z hx hy=>h2 x y z (List.mem_cons_of_mem _ hx) (List.mem_cons_of_mem _ hy)),?_⟩
    intro z hz w hw e
    subst e
    obtain ⟨y,hy,Te⟩:=List.mem_flatMap.1 hw
    have:=h2 a y z List.mem_cons_self (List.mem_cons_of_mem _ hy) hz Te
    subst this
    exact KE.1 hy
theorem Jb {d:au} {F:List (LR (LR Int))} {bl:List Int} {ms:List (LR Int)} (hF:xh d F) (hp:nD d.acc.length bl ms) {c t:Nat} (hc:c<F.length) (ht:t<ms.length):((fv ms t).flatMap (sb F c)).Nodup:=by
  refine wj (hp.nd t ht) (fun x hx=>?_) (fun x y z hx hy h1 h2=>?_)
  · obtain ⟨i,hi,rfl,_⟩:=(hp.mem t ht x).1 hx
    exact hF.nd c hc i hi
  · obtain ⟨i,hi,rfl,_⟩:=(hp.mem t ht x).1 hx
    obtain ⟨j,hj,rfl,_⟩:=(hp.mem t ht y).1 hy
    obtain ⟨u,hu,rfl,e1⟩:=(hF.mem c hc i hi z).1 h1
    obtain ⟨v,hv,e3,e2⟩:=(hF.mem c hc j hj _).1 h2
    have:u=v:=by omega
    subst this
    rw [←e1,←e2]
structure Kp (nb:Nat) (bl L:List Int) (ps:List (LR Int)) (met:List Int):Prop where
  len:ps.length=nb
  val:∀b,b<nb→(ps.getD b ae).xs=L.filter (fun x=>decide (bl.getD x.toNat 0=((b:Nat):Int)))
  mt:∀y:Int,y∈met↔∃x,x∈L∧bl.getD x.toNat 0=y
  nd:met.Nodup
theorem Kp.start (nb:Nat) (bl:List Int):Kp nb bl [] (List.replicate nb ae) []:=⟨by simp,fun b hb=>by simp [List.getD_eq_getElem?_getD,hb,ae],fun y=>by simp,by simp⟩
theorem Kp.put {nb:Nat} {bl L:List Int} {ps:List (LR Int)} {met:List Int} {x:Int} {a:aP} {n c b:Nat} (h:Kp nb bl L ps met) (hb:bl.getD x.toNat 0=((b:Nat):Int)) (sL:b<nb):
    ∀Pr,(if (ps.getD b ae).xs=[] then Pr=met++[((b:Nat):Int)] else Pr=met)→Kp nb bl (L++[x]) (ps.set b ⟨a,n,c,(ps.getD b ae).xs++[x]⟩) Pr:=by
  intro Pr hm
  have XO:(ps.getD b ae).xs=[]↔((b:Nat):Int)∉met:=by
    rw [h.val b sL,List.filter_eq_nil_iff,h.mt]
    constructor
    · rintro h9 ⟨y,hy,e⟩
      exact h9 y hy (by simpa using e)
    · intro h9 y hy e
      exact h9 ⟨y,hy,by simpa using e⟩
  refine ⟨by simp [h.len],fun k hk=>?_,fun y=>?_,?_⟩
  · rw [ed (by rw [h.len];exact sL),List.filter_append]
    by_cases e:b=k
    · subst e
      rw [if_pos rfl]
      show (ps.getD b ae).xs++[x]=_
      rw [h.val b sL]
      have:List.filter (fun x=>decide (bl.getD x.toNat 0=((b:Nat):Int))) [x]=[x]:=by simp only [List.filter_cons,List.filter_nil,hb,decide_true,if_true]
      rw [this]
    · rw [if_neg e,h.val k hk]
      have:List.filter (fun x=>decide (bl.getD x.toNat 0=((k:Nat):Int))) [x]=[]:=by
        simp only [List.filter_cons,List.filter_nil,hb]
        rw [if_neg];simp only [decide_eq_true_eq];omega
      rw [this,List.append_nil]
  · have key:(∃z,z∈L++[x]∧bl.getD z.toNat 0=y)↔(y∈met∨y=((b:Nat):Int)):=by
      rw [h.mt]
      constructor
      · rintro ⟨z,hz,e⟩
        rcases List.mem_append.1 hz with h9|h9
        · exact .inl ⟨z,h9,e⟩
        · rw [List.mem_singleton.1 h9,hb] at e;exact .inr e.symm
      · rintro (⟨z,hz,e⟩|e)
        · exact ⟨z,List.mem_append_left _ hz,e⟩
        · exact ⟨x,by simp,by rw [hb,e]⟩
    rw [key]
    split at hm
    · rw [hm];simp
    · rename_i bm
      rw [hm]
      constructor
      · intro h9;exact .inl h9
      · rintro (h9|rfl)
        · exact h9
        · exact Classical.byContradiction fun h8=>bm (XO.2 h8)
  · split at hm
    · rename_i he
      rw [hm]
      exact List.nodup_append.2 ⟨h.nd,by simp,fun u hu v hv e=>by
        rw [List.mem_singleton.1 hv] at e;subst e;exact (XO.1 he) hu⟩
    · rw [hm];exact h.nd
def Sd (mm:List (Int×LR Int)) (ps:List (LR Int)):Prop:=∀b:Nat,b<ps.length→(getM mm ((b:Nat):Int)).getD ae=ps.getD b ae
theorem Sd.start (nb:Nat):Sd [] (List.replicate nb ae):=fun b hb=>by
  have:b<nb:=by simpa using hb
  simp [getM,List.getD_eq_getElem?_getD,this]
theorem Sd.put {mm:List (Int×LR Int)} {ps:List (LR Int)} {b:Nat} {v:LR Int} (h:Sd mm ps) (hb:b<ps.length):Sd (iC mm ((b:Nat):Int) v) (ps.set b v):=fun k hk=>by
  rw [rC,ed hb]
  by_cases e:b=k
  · subst e;rw [if_pos rfl,if_pos rfl];rfl
  · rw [if_neg oz,if_neg e];exact h k (by simpa using hk)
structure l6 (d:au) (nC:List Int) (r7:List (LR Int)) (r6:List (Int×Int)) (L met:List Int) (E:Nat→Nat→Nat→Prop) (bl:List Int) (ms:List (LR Int)) (td:List (Int×Int)) (wt:List (LR Bool)) (q:Nat):Prop where
  iG:kA d bl ms td wt E
  ref:∀p r,p<d.acc.length→r<d.acc.length→bl.getD p 0=bl.getD r 0→nC.getD p 0=nC.getD r 0
  unt:∀j,q≤j→j<met.length→ms.getD (met.getD j 0).toNat ae=r7.getD (met.getD j 0).toNat ae
  done:∀p r,p<d.acc.length→r<d.acc.length→bl.getD p 0=bl.getD r 0→(∀j,q≤j→j<met.length→met.getD j 0≠nC.getD p 0)→((p:Int)∈L↔(r:Int)∈L)
  QB:r7.length≤ms.length∧td.length+r7.length*(aZ d).length=r6.length+ms.length*(aZ d).length
theorem l6.start {d:au} {nC:List Int} {r7:List (LR Int)} {r6:List (Int×Int)} {L met:List Int} {wt:List (LR Bool)} {E:Nat→Nat→Nat→Prop} (h:kA d nC r7 r6 wt E) (hm:∀y:Int,y∈met↔∃x,x∈L∧nC.getD x.toNat 0=y):
    l6 d nC r7 r6 L met E nC r7 r6 wt 0:=by
  refine ⟨h,fun p r _ _ e=>e,fun j _ _=>rfl,fun p r hp hr e hn=>?_,by omega⟩
  have key:∀i:Nat,nC.getD i 0=nC.getD p 0→(i:Int)∉L:=fun i e2 hi=>by
    have h1:=(hm (nC.getD p 0)).2 ⟨(i:Int),hi,by rw [Int.toNat_natCast];exact e2⟩
    obtain ⟨j,hj,e3⟩:=List.mem_iff_getElem.1 h1
    exact hn j oz hj (by rw [←e3];simp [List.getD_eq_getElem?_getD,List.getElem?_eq_getElem hj])
  exact ⟨fun h9=>absurd h9 (key p rfl),fun h9=>absurd h9 (key r e.symm)⟩
theorem zZ {d:au} {nC bl:List Int} {r7 ms:List (LR Int)} {r6 td:List (Int×Int)} {L met:List Int} {wt:List (LR Bool)} {E:Nat→Nat→Nat→Prop} {q b:Nat} {ps:List (LR Int)} (h:l6 d nC r7 r6 L met E bl ms td wt q) (h0:nD d.acc.length nC r7)
    (hL:∀x,x∈L→∃i:Nat,i<d.acc.length∧x=(i:Int)) (hP:Kp r7.length nC L ps met) (hq:q<met.length) (hb:met.getD q 0=((b:Nat):Int)) (sL:b<r7.length):
    (∀x,x∈(ps.getD b ae).xs↔x∈L∧x∈fv ms b)∧(∀i:Nat,i<d.acc.length→(bl.getD i 0=((b:Nat):Int)↔nC.getD i 0=((b:Nat):Int)))∧fv ms b=fv r7 b∧(ps.getD b ae).xs≠[]:=by
  have Xt:=h.unt q (Nat.le_refl _) hq
  rw [hb,Int.toNat_natCast] at Xt
  have e1:fv ms b=fv r7 b:=by unfold fv;rw [Xt]
  have RR:b<ms.length:=by have:=h.QB.1;omega
  have KG:∀i:Nat,i<d.acc.length→(bl.getD i 0=((b:Nat):Int)↔nC.getD i 0=((b:Nat):Int)):=fun i hi=>by
    have m1:=h.iG.part.mem b RR (i:Int)
    have m2:=h0.mem b sL (i:Int)
    rw [e1] at m1
    constructor
    · intro e
      obtain ⟨j,hj,e2,e3⟩:=m2.1 (m1.2 ⟨i,hi,rfl,e⟩)
      have:i=j:=by omega
      subst this;exact e3
    · intro e
      obtain ⟨j,hj,e2,e3⟩:=m1.1 (m2.2 ⟨i,hi,rfl,e⟩)
      have:i=j:=by omega
      subst this;exact e3
  refine ⟨fun x=>?_,KG,e1,?_⟩
  · rw [hP.val b sL,List.mem_filter,decide_eq_true_eq]
    constructor
    · rintro ⟨h1,h2⟩
      obtain ⟨i,hi,rfl⟩:=hL x h1
      rw [Int.toNat_natCast] at h2
      exact ⟨h1,by rw [e1];exact (h0.mem b sL _).2 ⟨i,hi,rfl,h2⟩⟩
    · rintro ⟨h1,h2⟩
      rw [e1] at h2
      obtain ⟨i,hi,rfl,e⟩:=(h0.mem b sL _).1 h2
      exact ⟨h1,by rw [Int.toNat_natCast];exact e⟩
  · obtain ⟨x,hx,e⟩:=(hP.mt (((b:Nat):Int))).1 (by rw [←hb];exact ak hq)
    rw [hP.val b sL]
    exact List.ne_nil_of_mem (List.mem_filter.2 ⟨hx,by rw [decide_eq_true_eq];exact e⟩)
theorem l6.skip {d:au} {nC bl:List Int} {r7 ms:List (LR Int)} {r6 td:List (Int×Int)} {L met:List Int} {wt:List (LR Bool)} {E:Nat→Nat→Nat→Prop} {q b:Nat} {ps:List (LR Int)} (h:l6 d nC r7 r6 L met E bl ms td wt q) (h0:nD d.acc.length nC r7)
    (hL:∀x,x∈L→∃i:Nat,i<d.acc.length∧x=(i:Int)) (RS:L.Nodup) (hP:Kp r7.length nC L ps met) (hq:q<met.length) (hb:met.getD q 0=((b:Nat):Int)) (sL:b<r7.length) (hlen:¬(ps.getD b ae).xs.length<(fv ms b).length):
    l6 d nC r7 r6 L met E bl ms td wt (q+1):=by
  obtain ⟨m1,m2,m3,_⟩:=zZ h h0 hL hP hq hb sL
  have RR:b<ms.length:=by have:=h.QB.1;omega
  have PL:(ps.getD b ae).xs.Nodup:=by rw [hP.val b sL];exact RS.sublist List.filter_sublist
  have all:=Jp PL (fun x hx=>((m1 x).1 hx).2) oz
  refine ⟨h.iG,h.ref,fun j hj yT=>h.unt j oz yT,fun p r hp hr e hn=>?_,h.QB⟩
  by_cases e2:nC.getD p 0=((b:Nat):Int)
  · have key:∀i:Nat,i<d.acc.length→nC.getD i 0=((b:Nat):Int)→(i:Int)∈L:=fun i hi e3=>
      ((m1 _).1 (all _ ((h.iG.part.mem b RR _).2 ⟨i,hi,rfl,(m2 i hi).2 e3⟩))).1
    have e4:=h.ref p r hp hr e
    exact ⟨fun _=>key r hr (by rw [←e4];exact e2),fun _=>key p hp e2⟩
  · refine h.done p r hp hr e fun j hj yT=>?_
    by_cases e3:j=q
    · subst e3;rw [hb];exact fun h9=>e2 h9.symm
    · exact hn j oz yT
theorem l6.split {d:au} {nC bl pe:List Int} {r7 ms zX:List (LR Int)} {r6 td Ot:List (Int×Int)} {L met:List Int} {wt ph:List (LR Bool)} {E:Nat→Nat→Nat→Prop} {q b c t:Nat} {ps:List (LR Int)} (hr:aD d=true) (h:l6 d nC r7 r6 L met E bl ms td wt q) (h0:nD d.acc.length nC r7) (hs0:Vg d nC)
    (hL:∀x,x∈L↔∃i:Nat,i<d.acc.length∧x=(i:Int)∧nC.getD (dl d c i) 0=((t:Nat):Int)) (hc:c<(aZ d).length) (RS:L.Nodup) (hP:Kp r7.length nC L ps met) (hq:q<met.length) (hb:met.getD q 0=((b:Nat):Int)) (sL:b<r7.length) (hlen:(ps.getD b ae).xs.length<(fv ms b).length)
    (s:QY b (ps.getD b ae).xs (aZ d).length bl ms td wt pe zX Ot ph):l6 d nC r7 r6 L met E pe zX Ot ph (q+1):=by
  have hL':∀x,x∈L→∃i:Nat,i<d.acc.length∧x=(i:Int):=fun x hx=>by obtain ⟨i,hi,e,_⟩:=(hL x).1 hx;exact ⟨i,hi,e⟩
  obtain ⟨m1,m2,m3,m4⟩:=zZ h h0 hL' hP hq hb sL
  have RR:b<ms.length:=by have:=h.QB.1;omega
  have PL:(ps.getD b ae).xs.Nodup:=by rw [hP.val b sL];exact RS.sublist List.filter_sublist
  have KG:=h.iG.part.len
  have bv:∀i,i<d.acc.length→pe.getD i 0=if (i:Int)∈(ps.getD b ae).xs then (ms.length:Int) else bl.getD i 0:=fun i hi=>s.bv i oz
  have ME:∀i:Nat,i<d.acc.length→(i:Int)∈(ps.getD b ae).xs→bl.getD i 0=((b:Nat):Int):=fun i hi ho=>by
    obtain ⟨j,hj,e1,e2⟩:=(h.iG.part.mem b RR _).1 ((m1 _).1 ho).2
    have:i=j:=by omega
    subst this;exact e2
  have iG:=h.iG.split hr s RR (fun x hx=>((m1 x).1 hx).2) PL m4 (E6 (h.iG.part.nd b RR) hlen) (fun p r hp lu o1 i2 o2=>by
    have l1:=((m1 _).1 o1).1
    have l2:(r:Int)∉L:=fun h9=>o2 ((m1 _).2 ⟨h9,i2⟩)
    obtain ⟨i,hi,e1,e2⟩:=(hL _).1 l1
    have:p=i:=by omega
    subst this
    refine Uk hr hc (hs0 _ _ (k4 hr hc hp).1 (k4 hr hc lu).1 fun e3=>l2 ((hL _).2 ⟨r,lu,rfl,?_⟩))
    rw [←e3];exact e2)
  have up:∀p r,p<d.acc.length→r<d.acc.length→pe.getD p 0=pe.getD r 0→bl.getD p 0=bl.getD r 0∧((p:Int)∈(ps.getD b ae).xs↔(r:Int)∈(ps.getD b ae).xs):=fun p r hp lu e=>by
    rw [bv p hp,bv r lu] at e
    have r1:=h.iG.part.kC p hp
    have r2:=h.iG.part.kC r lu
    by_cases o1:(p:Int)∈(ps.getD b ae).xs
    · by_cases o2:(r:Int)∈(ps.getD b ae).xs
      · exact ⟨by rw [ME p hp o1,ME r lu o2],fun _=>o2,fun _=>o1⟩
      · rw [if_pos o1,if_neg o2] at e;omega
    · by_cases o2:(r:Int)∈(ps.getD b ae).xs
      · rw [if_neg o1,if_pos o2] at e;omega
      · rw [if_neg o1,if_neg o2] at e;exact ⟨e,fun h9=>absurd h9 o1,fun h9=>absurd h9 o2⟩
  refine ⟨iG,fun p r hp lu e=>h.ref p r hp lu (up p r hp lu e).1,fun j hj yT=>?_,fun p r hp lu e hn=>?_,?_⟩
  · have bm:(met.getD j 0).toNat≠b:=fun e=>by
      have h1:=hP.nd
      rw [List.nodup_iff_pairwise_ne,List.pairwise_iff_getElem] at h1
      have h2:=h1 q j hq yT oz
      have r1:∀i,i<met.length→met.getD i 0=met[i]?.getD 0:=fun i hi=>List.getD_eq_getElem?_getD ..
      have hj0:0≤met.getD j 0:=by
        obtain ⟨x,hx,e9⟩:=(hP.mt (met.getD j 0)).1 (ak yT)
        obtain ⟨i,hi,rfl⟩:=hL' x hx
        have:=h0.kC i hi
        rw [Int.toNat_natCast] at e9;omega
      apply h2
      have e3:met.getD q 0=met[q]:=by simp [List.getD_eq_getElem?_getD,List.getElem?_eq_getElem hq]
      have e4:met.getD j 0=met[j]:=by simp [List.getD_eq_getElem?_getD,List.getElem?_eq_getElem yT]
      rw [←e3,←e4,hb];omega
    have cF:(met.getD j 0).toNat<ms.length:=by
      obtain ⟨x,hx,e9⟩:=(hP.mt (met.getD j 0)).1 (ak yT)
      obtain ⟨i,hi,rfl⟩:=hL' x hx
      have:=h0.kC i hi
      have:=h.QB.1
      rw [Int.toNat_natCast] at e9;omega
    rw [s.m3 _ cF bm]
    exact h.unt j oz yT
  · obtain ⟨e1,e2⟩:=up p r hp lu e
    by_cases e3:nC.getD p 0=((b:Nat):Int)
    · have key:∀i:Nat,i<d.acc.length→nC.getD i 0=((b:Nat):Int)→((i:Int)∈(ps.getD b ae).xs↔(i:Int)∈L):=fun i hi e4=>
        ⟨fun h9=>((m1 _).1 h9).1,fun h9=>(m1 _).2 ⟨h9,(h.iG.part.mem b RR _).2 ⟨i,hi,rfl,(m2 i hi).2 e4⟩⟩⟩
      have e4:=h.ref p r hp lu e1
      rw [←key p hp e3,←key r lu (by rw [←e4];exact e3)];exact e2
    · refine h.done p r hp lu e1 fun j hj yT=>?_
      by_cases e5:j=q
      · subst e5;rw [hb];exact fun h9=>e3 h9.symm
      · exact hn j oz yT
  · have h1:=h.QB
    have h2:=s.ml
    have h3:=s.tl
    refine ⟨by omega,?_⟩
    rw [h2,h3,Nat.add_mul,Nat.one_mul]
    omega
def DR (d:au) (bl:List Int) (t c k p q:Nat):Prop:=k=c∧¬(bl.getD (dl d c p) 0=((t:Nat):Int)↔bl.getD (dl d c q) 0=((t:Nat):Int))
theorem kA.take {d:au} {bl:List Int} {ms:List (LR Int)} {td:List (Int×Int)} {wt ph:List (LR Bool)} {t c:Nat} (hr:aD d=true) (h:kA d bl ms (td++[(((t:Nat):Int),((c:Nat):Int))]) wt (fun _ _ _=>False)) (s:rS wt t c false ph):
    kA d bl ms td ph (DR d bl t c):=by
  refine ⟨h.part,⟨by rw [s.len];exact h.wait.len,fun b hb=>by rw [s.row];exact h.wait.row b hb,fun b k hb hk h9=>?_,fun u hu=>h.wait.bd u (List.mem_append_left _ hu)⟩,?_,h.snd,h.acc⟩
  · rw [s.val] at h9
    split at h9
    · cases h9
    · rename_i bm
      rcases List.mem_append.1 (h.wait.todo b k hb hk h9) with h8|h8
      · exact h8
      · have h7:=List.mem_singleton.1 h8
        simp only [Prod.mk.injEq] at h7
        exact absurd ⟨by omega,by omega⟩ bm
  · intro k p q hk hp hq e bm
    have lp:=(k4 hr hk hp).1
    have lq:=(k4 hr hk hq).1
    have rp:=h.part.kC _ lp
    have rq:=h.part.kC _ lq
    by_cases hE:DR d bl t c k p q
    · exact .inr (.inr hE)
    · have XK:k=c→(bl.getD (dl d c p) 0=((t:Nat):Int)↔bl.getD (dl d c q) 0=((t:Nat):Int)):=fun e9=>Classical.byContradiction fun h8=>hE ⟨e9,h8⟩
      rcases h.O0 k p q hk hp hq e bm with h9|h9|h9
      · refine .inl ?_
        rw [s.val,if_neg];exact h9
        rintro ⟨e1,e2⟩
        have e3:=XK e2
        subst e2
        have e4:bl.getD (dl d k p) 0=((t:Nat):Int):=by unfold bk at e1;omega
        exact bm (by rw [e4,e3.1 e4])
      · refine .inr (.inl ?_)
        rw [s.val,if_neg];exact h9
        rintro ⟨e1,e2⟩
        have e3:=XK e2
        subst e2
        have e4:bl.getD (dl d k q) 0=((t:Nat):Int):=by unfold bk at e1;omega
        exact bm (by rw [e4,e3.2 e4])
      · exact h9.elim
theorem l6.fin {d:au} {nC bl:List Int} {r7 ms:List (LR Int)} {r6 td:List (Int×Int)} {L met:List Int} {wt:List (LR Bool)} {q c t:Nat} (h:l6 d nC r7 r6 L met (DR d nC t c) bl ms td wt q) (hq:¬q<met.length)
    (hL:∀x,x∈L↔∃i:Nat,i<d.acc.length∧x=(i:Int)∧nC.getD (dl d c i) 0=((t:Nat):Int)):kA d bl ms td wt (fun _ _ _=>False):=by
  refine ⟨h.iG.part,h.iG.wait,?_,h.iG.snd,h.iG.acc⟩
  intro k p r hk hp hr e bm
  have hd:=h.done p r hp hr e (fun j hj yT=>by omega)
  rcases h.iG.O0 k p r hk hp hr e bm with h9|h9|⟨_,h9⟩
  · exact .inl h9
  · exact .inr (.inl h9)
  · exfalso
    apply h9
    have key:∀i:Nat,i<d.acc.length→((i:Int)∈L↔nC.getD (dl d c i) 0=((t:Nat):Int)):=fun i hi=>by
      rw [hL]
      constructor
      · rintro ⟨j,hj,e1,e2⟩
        have:i=j:=by omega
        subst this;exact e2
      · intro e1;exact ⟨i,hi,rfl,e1⟩
    rw [←key p hp,←key r hr];exact hd
theorem kA.alike {d:au} (hr:aD d=true) {bl:List Int} {ms:List (LR Int)} {wt:List (LR Bool)} (h:kA d bl ms [] wt (fun _ _ _=>False)):∀(t p q:Nat),p<d.acc.length→q<d.acc.length→Di d t p q→bl.getD p 0≠bl.getD q 0
  | 0,p,q,hp,hq,hd,e=>hd (h.acc p q hp hq e)
  | t+1,p,q,hp,hq,hd,e=>by
    rcases hd with hd|⟨c,hc,hd⟩
    · exact kA.alike hr h t p q hp hq hd e
    · obtain ⟨k,hk,e2⟩:=Ui hr hc
      rw [e2,e2] at hd
      have lp:=(k4 hr hk hp).1
      have lq:=(k4 hr hk hq).1
      have rp:=h.part.kC _ lp
      have rq:=h.part.kC _ lq
      have hn:=kA.alike hr h t _ _ lp lq hd
      rcases h.O0 k p q hk hp hq e hn with h9|h9|h9
      · exact absurd (h.wait.todo _ k (by unfold bk;omega) hk h9) (by simp)
      · exact absurd (h.wait.todo _ k (by unfold bk;omega) hk h9) (by simp)
      · exact h9
theorem kA.blocks {d:au} (hr:aD d=true) {bl:List Int} {ms:List (LR Int)} {td:List (Int×Int)} {wt:List (LR Bool)} (h:kA d bl ms td wt (fun _ _ _=>False)) (ht:¬0<td.length):eJ bl bl=xS d∧ja bl bl=((dd (pF d)).length:Int):=by
  have ht0:td=[]:=List.length_eq_zero_iff.1 oz
  subst ht0
  have hl:=h.part.len
  have As:=(wY d).len
  have hk:∀i k,i<d.acc.length→k<d.acc.length→((bl.zip bl)[i]?=(bl.zip bl)[k]?↔(pF d)[i]?=(pF d)[k]?):=fun i k hi tD=>by
    have gz:∀i,i<d.acc.length→(bl.zip bl)[i]?=some (bl.getD i 0,bl.getD i 0):=fun i hi=>by
      rw [List.getElem?_eq_getElem (by rw [List.length_zip];omega),List.getElem_zip]
      simp [List.getD_eq_getElem?_getD,List.getElem?_eq_getElem (show i<bl.length by omega)]
    have gf:∀i,i<d.acc.length→(pF d)[i]?=some ((pF d).getD i 0):=fun i hi=>by
      simp [List.getD_eq_getElem?_getD,List.getElem?_eq_getElem (show i<(pF d).length by omega)]
    rw [gz i hi,gz k tD,gf i hi,gf k tD]
    simp only [Option.some.injEq,Prod.mk.injEq,and_self]
    rw [(wY d).kernel (Lh d _) hi tD]
    constructor
    · intro e
      exact (HN hr hi tD).1 fun ⟨t,hd⟩=>kA.alike hr h t i k hi tD hd e
    · intro e
      exact Classical.byContradiction fun hn=>(HN hr hi tD).2 e (h.snd i k hi tD hn)
  have key:=vE d.acc.length (bl.zip bl) (pF d) (by simp [hl]) As hk
  constructor
  · unfold eJ xS;rw [if_pos rfl];exact key.1
  · unfold ja;rw [if_pos rfl,key.2]
def km (p:Int→Bool) (s:List Int) (k:Nat):Prop:=(s.take k).filter p=[]
theorem Cx {p:Int→Bool} {s:List Int} {k:Nat} (h:km p s k) (hk:k<s.length) (hp:¬p (s.getD k 0)=true):km p s (k+1):=by
  have e:s.getD k 0=s[k]:=by simp [List.getD_eq_getElem?_getD,List.getElem?_eq_getElem hk]
  rw [e] at hp
  unfold km at*
  rw [List.take_add_one,List.getElem?_eq_getElem hk,List.filter_append,h];simp [hp]
theorem yI {p:Int→Bool} {s:List Int} {k:Nat} (h:km p s k):(s.take k).filter (fun x=> !p x)=s.take k:=by
  rw [List.filter_eq_self]
  intro x hx
  have:x∉(s.take k).filter p:=by rw [show (s.take k).filter p=[] from h];simp
  simpa [hx] using this
structure rZ (p:Int→Bool) (s ys:List Int) (i j:Nat):Prop where
  len:ys.length=s.length
  le:i<j
  pre:ys.take i=(s.take j).filter (fun x=> !p x)
  post:ys.drop j=s.drop j
theorem rZ.start {p:Int→Bool} {s:List Int} {k:Nat} (h:km p s k) (hk:k<s.length) (hp:p (s.getD k 0)=true):rZ p s s k (k+1):=by
  have e:s.getD k 0=s[k]:=by simp [List.getD_eq_getElem?_getD,List.getElem?_eq_getElem hk]
  rw [e] at hp
  refine ⟨rfl,by omega,?_,rfl⟩
  rw [List.take_add_one,List.getElem?_eq_getElem hk,List.filter_append,yI h];simp [hp]
section
variable {p:Int→Bool} {s ys:List Int} {i j:Nat}
theorem rZ.get (h:rZ p s ys i j) (hj:j<s.length):ys.getD j 0=s.getD j 0:=by
  have h1:=congrArg (fun l=>l[0]?) h.post
  simp only [List.getElem?_drop,Nat.add_zero] at h1
  simp only [List.getD_eq_getElem?_getD,h1]
theorem rZ.no (h:rZ p s ys i j) (hj:j<s.length) (hp:p (ys.getD j 0)=true):rZ p s ys i (j+1):=by
  rw [h.get hj] at hp
  have e:s.getD j 0=s[j]:=by simp [List.getD_eq_getElem?_getD,List.getElem?_eq_getElem hj]
  rw [e] at hp
  refine ⟨h.len,by have:=h.le;omega,?_,?_⟩
  · rw [h.pre,List.take_add_one,List.getElem?_eq_getElem hj,List.filter_append];simp [hp]
  · have:=congrArg (List.drop 1) h.post;simpa [List.drop_drop] using this
theorem rZ.yes (h:rZ p s ys i j) (hj:j<s.length) (hp:¬p (ys.getD j 0)=true):rZ p s (ys.set i (ys.getD j 0)) (i+1) (j+1):=by
  have hg:=h.get hj
  rw [hg] at hp ⊢
  have e:s.getD j 0=s[j]:=by simp [List.getD_eq_getElem?_getD,List.getElem?_eq_getElem hj]
  rw [e] at hp ⊢
  have hle:=h.le;have hlen:=h.len
  have hi:i<ys.length:=by omega
  refine ⟨by simp [hlen],by omega,?_,?_⟩
  · rw [List.take_add_one,List.take_set_of_le oz,h.pre,List.getElem?_set_self hi]
    rw [List.take_add_one,List.getElem?_eq_getElem hj,List.filter_append];simp [hp]
  · rw [List.drop_set_of_lt oz]
    have:=congrArg (List.drop 1) h.post;simpa [List.drop_drop] using this
theorem rZ.fin (h:rZ p s ys i j) (hj:¬j<s.length):ys.take i=s.filter (fun x=> !p x):=by
  rw [h.pre,List.take_of_length_le oz]
end
theorem xN {p:Int→Bool} {s:List Int} :∀(n k:Nat),n=s.length-k→km p s k→k≤s.length→(dW p s k= -1∧km p s s.length)∨∃j:Nat,dW p s k=(j:Int)∧j<s.length∧km p s j∧p (s.getD j 0)=true:=by
  intro n
  induction n with
  | zero=>
    intro k hn h hk
    have:k=s.length:=by omega
    subst this
    exact .inl ⟨rG p s _ (Nat.le_refl _),h⟩
  | succ n ih=>
    intro k hn h hk
    have cF:k<s.length:=by omega
    by_cases hp:p (s.getD k 0)=true
    · exact .inr ⟨k,rF p s k cF hp,cF,h,hp⟩
    · rw [tJ p s k cF hp]
      exact ih (k+1) oz (Cx h cF hp) cF
theorem FK (p:Int→Bool) (s:List Int):(ot p s= -1∧km p s s.length)∨∃j:Nat,ot p s=(j:Int)∧j<s.length∧km p s j∧p (s.getD j 0)=true:=
  xN _ 0 rfl (by simp [km]) oz
def pZ (gm:List (Int×Int)) (l:List Int) (k:Nat):Prop:=∀x,(getM gm x).getD 0=if x∈l.take k then 1 else 0
theorem pZ.start (l:List Int):pZ [] l 0:=fun x=>by simp [getM]
theorem pZ.step {gm:List (Int×Int)} {l:List Int} {k:Nat} (h:pZ gm l k) (hk:k<l.length):pZ (iC gm (l.getD k 0) 1) l (k+1):=fun x=>by
  rw [rC,bS 0 hk]
  by_cases e:x=l.getD k 0
  · rw [if_pos e,if_pos (by simp [e])];rfl
  · rw [if_neg e,h x]
    by_cases e2:x∈l.take k
    · rw [if_pos e2,if_pos (List.mem_append_left _ e2)]
    · rw [if_neg e2,if_neg (by simp only [List.mem_append,List.mem_singleton];exact fun h9=>h9.elim e2 e)]
theorem pZ.fin {gm:List (Int×Int)} {l:List Int} {k:Nat} (h:pZ gm l k) (hk:¬k<l.length) (x:Int):decide ((getM gm x).getD 0=1)=decide (x∈l):=by
  rw [h x,List.take_of_length_le oz]
  by_cases e:x∈l
  · rw [if_pos e];simp [e]
  · rw [if_neg e];simp [e]
theorem vN {κ ν:Type} {w w':World} {ek:κ→Value} {fy:ν→Value} {g:Nat} {m:List (κ×ν)} {S:List Nat} (h:oH w ek fy g m) (k:cM S w w') (hS:g∉S):oH w' ek fy g m:=by
  obtain ⟨es,clock,h1,h2⟩:=h
  exact ⟨es,clock,k.obj h1 hS,h2⟩
theorem Mi {κ ν:Type} {w w' kR:World} {L A:List Chunk} {G:List (List Chunk)} {ek:κ→Value} {fy:ν→Value} {g:Nat} {m:List (κ×ν)} (h:av w L w' G) (i j:Nat) (cD:Nat.beq i j=false) (hi:G[i]?=some A) (hj:G[j]?=some [dU ek fy g m]) (k:cM (dn A) w' kR):oH kR ek fy g m:=
  vN (h.oh j hj) k fun hm=>(h.CQ i j cD hi hj).apart hm (by simp [dn,dU])
theorem SB {ms:List (LR Int)} {b k:Nat} {out:List Int} {gm:List (Int×Int)} {a oa:aP} {n c on oc:Nat} (hb:b<ms.length) (hg:pZ gm out k) (hk:¬k<out.length):
    ((ms.set b ⟨a,n,c,(ms.getD b ae).xs.filter (fun x=> !(fun x=>decide ((getM gm x).getD 0=1)) x)⟩)++([⟨oa,on,oc,out⟩]:List (LR Int))).length=ms.length+1∧
    fv ((ms.set b ⟨a,n,c,(ms.getD b ae).xs.filter (fun x=> !(fun x=>decide ((getM gm x).getD 0=1)) x)⟩)++([⟨oa,on,oc,out⟩]:List (LR Int))) b=(fv ms b).filter (fun x=> !decide (x∈out))∧
    fv ((ms.set b ⟨a,n,c,(ms.getD b ae).xs.filter (fun x=> !(fun x=>decide ((getM gm x).getD 0=1)) x)⟩)++([⟨oa,on,oc,out⟩]:List (LR Int))) ms.length=out∧
    ∀i,i<ms.length→i≠b→((ms.set b ⟨a,n,c,(ms.getD b ae).xs.filter (fun x=> !(fun x=>decide ((getM gm x).getD 0=1)) x)⟩)++([⟨oa,on,oc,out⟩]:List (LR Int))).getD i ae=ms.getD i ae:=by
  have hl:(ms.set b ⟨a,n,c,(ms.getD b ae).xs.filter (fun x=> !(fun x=>decide ((getM gm x).getD 0=1)) x)⟩).length=ms.length:=List.length_set
  refine ⟨by rw [List.length_append,hl];rfl,?_,?_,fun i hi bm=>?_⟩
  · unfold fv
    rw [lS (by rw [hl];exact hb),ed hb,if_pos rfl]
    refine List.filter_congr fun x _=>?_
    show (!decide ((getM gm x).getD 0=1))=_
    rw [hg.fin hk x]
  · unfold fv
    rw [←hl,mP]
  · rw [lS (by rw [hl];exact hi),ed hb,if_neg (fun e=>bm e.symm)]
theorem Db {α β:Type} {f:α→List β} {N:Nat} :∀ {l:List α},(∀x,x∈l→(f x).length≤N)→(l.flatMap f).length≤l.length*N
  | [],_=>by simp
  | a::l,h=>by
    rw [List.flatMap_cons,List.length_append,List.length_cons,Nat.add_mul,Nat.one_mul]
    have h1:=h a List.mem_cons_self
    have h2:=Db (l:=l) (fun x hx=>h x (List.mem_cons_of_mem _ hx))
    omega
theorem Ax {d:au} {F:List (LR (LR Int))} (hF:xh d F) {c t:Nat} (hc:c<F.length) (ht:t<d.acc.length):(sb F c (t:Int)).length≤d.acc.length:=by
  have:=cj (hF.nd c hc t ht) (m:=(List.range d.acc.length).map fun i:Nat=>(i:Int)) (fun x hx=>by
    obtain ⟨j,hj,e,_⟩:=(hF.mem c hc t ht x).1 hx
    exact List.mem_map.2 ⟨j,List.mem_range.2 hj,e.symm⟩)
  simpa using this
theorem Io {d:au} {F:List (LR (LR Int))} {bl:List Int} {ms:List (LR Int)} (hF:xh d F) (hp:nD d.acc.length bl ms) (hr:aD d=true) {c t:Nat} (hc:c<F.length) (ht:t<ms.length) (q r:Nat):(qE F c (fv ms t) q r).length≤4097*4096:=by
  have hn:=(bh.1 hr).1
  have hm:=hp.ue ht
  have h1:((fv ms t).take q).length≤4096:=by rw [List.length_take];omega
  have h2:=Db (f:=sb F c) (l:=(fv ms t).take q) (N:=4096) (fun x hx=>by
    obtain ⟨i,hi,rfl,_⟩:=(hp.mem t ht x).1 (List.mem_of_mem_take hx)
    have:=Ax hF hc hi;omega)
  have h3:(sb F c ((fv ms t).getD q 0)).length≤4096:=by
    by_cases hq:q<(fv ms t).length
    · obtain ⟨i,hi,e,_⟩:=(hp.mem t ht _).1 (ak (d:=0) hq)
      rw [e];have:=Ax hF hc hi;omega
    · have e:(fv ms t).getD q 0=((0:Nat):Int):=by rw [List.getD_eq_getElem?_getD,List.getElem?_eq_none oz];rfl
      rw [e];have:=Ax hF hc (t:=0) oz;omega
  have h4:=Nat.mul_le_mul_right 4096 h1
  unfold qE
  rw [List.length_append,List.length_take]
  omega
theorem Kp.ue {nb:Nat} {bl L:List Int} {ps:List (LR Int)} {met:List Int} (h:Kp nb bl L ps met):met.length≤L.length:=by
  have:=cj h.nd (m:=L.map fun x=>bl.getD x.toNat 0) (fun y hy=>by
    obtain ⟨x,hx,e⟩:=(h.mt y).1 hy
    exact List.mem_map.2 ⟨x,hx,e⟩)
  simpa using this
theorem GX {met:List Int} {pq ps:List (LR Int)} {nb q b:Nat} (nd:met.Nodup) (RJ:∀j,j<met.length→0≤met.getD j 0) (h:pq.length=nb∧∀j,q≤j→j<met.length→pq.getD (met.getD j 0).toNat ae=ps.getD (met.getD j 0).toNat ae) (hq:q<met.length) (hb:met.getD q 0=((b:Nat):Int)) (sL:b<nb):
    (pq.set b ae).length=nb∧∀j,q+1≤j→j<met.length→(pq.set b ae).getD (met.getD j 0).toNat ae=ps.getD (met.getD j 0).toNat ae:=by
  refine ⟨by rw [List.length_set];exact h.1,fun j h1 h2=>?_⟩
  rw [ed (by rw [h.1];exact sL),if_neg]
  · exact h.2 j oz h2
  · intro e
    rw [List.nodup_iff_pairwise_ne,List.pairwise_iff_getElem] at nd
    apply nd q j hq h2 oz
    have e3:met.getD q 0=met[q]:=by simp [List.getD_eq_getElem?_getD,List.getElem?_eq_getElem hq]
    have e4:met.getD j 0=met[j]:=by simp [List.getD_eq_getElem?_getD,List.getElem?_eq_getElem h2]
    have:=RJ j h2
    rw [←e3,←e4,hb];omega
abbrev Ah:eK (LR Int) Int:=aG (aw .i64) 3
abbrev PD:eK (LR Int) Int:=aG (aw .i64) 3
abbrev Fo:eK (LR Int) Int:=aG (aw .i64) 3
theorem av.MB {w w':World} {L:List Chunk} {G:List (List Chunk)} {f:LR Int→Chunk} {F:List (LR (LR Int))} (p:LR (LR Int)) (h:av w L w' G) (i j:Nat) (cD:Nat.beq i j=false) (hi:G[i]?=some [ao f (F.flatMap LR.xs)]) (hj:G[j]?=some [ao f p.xs]):
    av w L w' ((G.set i [ao f ((F++[p]).flatMap LR.xs)]).set j []++[[]]):=by
  have h1:=h.Mz i j cD hi hj
  have e:(F++[p]).flatMap LR.xs=F.flatMap LR.xs++p.xs:=by simp
  rw [e];exact h1
structure Sc (d:au) (k:Nat) (ps:List (LR Int)) (i:Nat):Prop where
  len:ps.length=d.acc.length
  mem:∀t:Nat,t<d.acc.length→∀x:Int,x∈(ps.getD t ae).xs↔∃j:Nat,j<i∧x=(j:Int)∧dl d k j=t
  nd:∀t:Nat,t<d.acc.length→(ps.getD t ae).xs.Nodup
  size:∀t:Nat,t<d.acc.length→(ps.getD t ae).xs.length≤i
theorem Sc.start (d:au) (k:Nat):Sc d k (List.replicate d.acc.length ae) 0:=by
  have e:∀t:Nat,((List.replicate d.acc.length (ae:LR Int)).getD t ae).xs=[]:=fun t=>by
    simp only [List.getD_eq_getElem?_getD,List.getElem?_replicate];split<;>rfl
  exact ⟨by simp,fun t ht x=>by rw [e];simp,fun t ht=>by rw [e];simp,fun t ht=>by rw [e];simp⟩
theorem Sc.step {d:au} {k i q:Nat} {ps:List (LR Int)} {a:aP} {c m:Nat} (h:Sc d k ps i) (hq:dl d k i=q) (hqn:q<d.acc.length):Sc d k (ps.set q ⟨a,m,c,(ps.getD q ae).xs++[(i:Int)]⟩) (i+1):=by
  have hl:q<ps.length:=by rw [h.len];exact hqn
  refine ⟨by simp [h.len],fun t ht x=>?_,fun t ht=>?_,fun t ht=>?_⟩
  · rw [ed hl]
    by_cases e:q=t
    · subst e
      rw [if_pos rfl]
      show x∈(ps.getD q ae).xs++[(i:Int)]↔_
      rw [List.mem_append,h.mem q ht,List.mem_singleton]
      constructor
      · rintro (⟨j,h1,h2,h3⟩|h1)
        · exact ⟨j,by omega,h2,h3⟩
        · exact ⟨i,by omega,h1,hq⟩
      · rintro ⟨j,h1,h2,h3⟩
        by_cases e2:j=i
        · subst e2;exact .inr h2
        · exact .inl ⟨j,by omega,h2,h3⟩
    · rw [if_neg e,h.mem t ht]
      constructor
      · rintro ⟨j,h1,h2,h3⟩;exact ⟨j,by omega,h2,h3⟩
      · rintro ⟨j,h1,h2,h3⟩
        by_cases e2:j=i
        · subst e2;exact absurd (hq.symm.trans h3) e
        · exact ⟨j,by omega,h2,h3⟩
  · rw [ed hl]
    split
    · rename_i e;subst e
      show ((ps.getD q ae).xs++[(i:Int)]).Nodup
      refine List.nodup_append.2 ⟨h.nd q ht,by simp,fun u hu v hv e=>?_⟩
      rw [List.mem_singleton.1 hv] at e
      obtain ⟨j,h1,h2,_⟩:=(h.mem q ht u).1 hu
      omega
    · exact h.nd t ht
  · rw [ed hl]
    split
    · rename_i e;subst e
      show ((ps.getD q ae).xs++[(i:Int)]).length≤i+1
      have:=h.size q ht
      rw [List.length_append,List.length_singleton];omega
    · have:=h.size t ht;omega
structure rX (d:au) (F:List (LR (LR Int))) (n:Nat):Prop where
  len:F.length=n
  row:∀k,k<n→(F.getD k ae).xs.length=d.acc.length
  mem:∀k,k<n→∀t:Nat,t<d.acc.length→∀x:Int,x∈sb F k (t:Int)↔∃i:Nat,i<d.acc.length∧x=(i:Int)∧dl d k i=t
  nd:∀k,k<n→∀t:Nat,t<d.acc.length→(sb F k (t:Int)).Nodup
theorem rX.start (d:au):rX d [] 0:=⟨rfl,fun k h=>by omega,fun k h=>by omega,fun k h=>by omega⟩
theorem rX.step {d:au} {F:List (LR (LR Int))} {k i:Nat} {ps:List (LR Int)} {a:aP} {m c:Nat} (h:rX d F k) (hp:Sc d k ps i) (hi:i=d.acc.length):rX d (F++[⟨a,m,c,ps⟩]) (k+1):=by
  subst hi
  have hl:=h.len
  have e1:∀j,j<k→(F++[(⟨a,m,c,ps⟩:LR (LR Int))]).getD j ae=F.getD j ae:=fun j hj=>lS oz
  have e2:(F++[(⟨a,m,c,ps⟩:LR (LR Int))]).getD k ae=⟨a,m,c,ps⟩:=by rw [←hl];exact mP
  refine ⟨by simp [hl],fun j hj=>?_,fun j hj t ht x=>?_,fun j hj t ht=>?_⟩
  · by_cases e:j=k
    · subst e;rw [e2];exact hp.len
    · rw [e1 j oz];exact h.row j oz
  · unfold sb
    by_cases e:j=k
    · subst e;rw [e2,Int.toNat_natCast];exact hp.mem t ht x
    · rw [e1 j oz];exact h.mem j oz t ht x
  · unfold sb
    by_cases e:j=k
    · subst e;rw [e2,Int.toNat_natCast];exact hp.nd t ht
    · rw [e1 j oz];exact h.nd j oz t ht
theorem rX.fin {d:au} {F:List (LR (LR Int))} {k:Nat} (h:rX d F k) (hk:k=(aZ d).length):xh d F:=by
  subst hk
  have hl:=h.len
  exact ⟨hl,fun k hk=>h.row k oz,fun k hk=>h.mem k oz,fun k hk=>h.nd k oz⟩
def gq (d:au) (b:Bool) (k:Nat):List Int:=List.map (fun i:Nat=>(i:Int)) (List.filter (fun i:Nat=>d.acc.getD i false==b) (List.range k))
theorem gp {d:au} {b:Bool} {k:Nat} {x:Int} :x∈gq d b k↔∃i:Nat,i<k∧x=(i:Int)∧d.acc.getD i false=b:=by
  simp only [gq,List.mem_map,List.mem_filter,List.mem_range,beq_iff_eq]
  constructor
  · rintro ⟨i,⟨h1,h2⟩,rfl⟩;exact ⟨i,h1,rfl,h2⟩
  · rintro ⟨i,h1,rfl,h2⟩;exact ⟨i,⟨h1,h2⟩,rfl⟩
theorem O1 (d:au) (b:Bool) (k:Nat):(gq d b k).Nodup:=by
  rw [gq,List.nodup_iff_pairwise_ne,List.pairwise_map]
  exact (List.nodup_iff_pairwise_ne.1 (List.nodup_range.sublist List.filter_sublist)).imp (fun bm e=>bm oz)
theorem qN (d:au) (b:Bool) (k:Nat):(gq d b k).length≤k:=by
  have:=List.length_filter_le (fun i=>d.acc.getD i false==b) (List.range k)
  simp only [gq,List.length_map];simpa using this
theorem qM {d:au} {b:Bool} {k:Nat} (h:d.acc.getD k false=b):gq d b k++[(k:Int)]=gq d b (k+1):=by
  rw [List.getD_eq_getElem?_getD] at h;simp [gq,List.range_succ,List.filter_append,h]
theorem uy {d:au} {b:Bool} {k:Nat} (h:¬d.acc.getD k false=b):gq d b k=gq d b (k+1):=by
  rw [List.getD_eq_getElem?_getD] at h;simp [gq,List.range_succ,List.filter_append,h]
def Bv (d:au):List (List Int):=[gq d false d.acc.length,gq d true d.acc.length]
structure jS (d:au) (K:Nat) (bq:List Int) (mq:List (LR Int)) (wq:List (LR Bool)) (k:Nat):Prop where
  bl:bq.length=d.acc.length
  sub:mq.map LR.xs=((Bv d).take k).filter (fun l=> !l.isEmpty)
  bv:∀b,b<mq.length→∀x,x∈fv mq b→bq.getD x.toNat 0=((b:Nat):Int)
  wl:wq.length=mq.length
  wf:∀i,i<wq.length→(wq.getD i ae).xs=List.replicate K false
theorem jS.start {d:au} {K n:Nat} (h:n=d.acc.length):jS d K (List.replicate n 0) [] [] 0:=⟨by simp [h],rfl,fun b hb=>by simp at hb,rfl,fun i hi=>by simp at hi⟩
theorem jS.ue {d:au} {K:Nat} {bq:List Int} {mq:List (LR Int)} {wq:List (LR Bool)} {k:Nat} (h:jS d K bq mq wq k):mq.length≤2:=by
  have h1:=congrArg List.length h.sub
  rw [List.length_map] at h1
  rw [h1]
  refine Nat.le_trans (List.length_filter_le _ _) ?_
  rw [List.length_take];exact Nat.min_le_right _ _
theorem G9 {mq:List (LR Int)} {b:Nat} (hb:b<mq.length):(mq.map LR.xs)[b]?=some (fv mq b):=by
  unfold fv;rw [List.getElem?_map,List.getElem?_eq_getElem hb];simp [List.getD_eq_getElem?_getD,List.getElem?_eq_getElem hb]
theorem jS.block {d:au} {K:Nat} {bq:List Int} {mq:List (LR Int)} {wq:List (LR Bool)} {k:Nat} (h:jS d K bq mq wq k) {b:Nat} (hb:b<mq.length):fv mq b≠[]∧fv mq b∈(Bv d).take k:=by
  have h1:=List.mem_of_getElem? (G9 hb)
  rw [h.sub,List.mem_filter] at h1
  exact ⟨fun e=>by rw [e] at h1;simp at h1,h1.1⟩
theorem x8 (d:au) {k:Nat} (hk:k<2):(Bv d).take (k+1)=(Bv d).take k++[gq d (decide (k=1)) d.acc.length]:=by
  rcases (by omega:k=0∨k=1) with rfl|rfl<;>rfl
theorem jS.skip {d:au} {K:Nat} {bq:List Int} {mq:List (LR Int)} {wq:List (LR Bool)} {k:Nat} (h:jS d K bq mq wq k) (hk:k<2) (he:gq d (decide (k=1)) d.acc.length=[]):jS d K bq mq wq (k+1):=
  ⟨h.bl,by rw [x8 d hk,List.filter_append,he,h.sub];simp,h.bv,h.wl,h.wf⟩
theorem jS.add {d:au} {K ln lc:Nat} {la:aP} {l bq bq':List Int} {mq:List (LR Int)} {wq wq':List (LR Bool)} {k:Nat} (h:jS d K bq mq wq k) (hk:k<2) (hl:l=gq d (decide (k=1)) d.acc.length) (he:l≠[]) (s:ZS l K la ln lc bq mq wq bq' wq'):
    jS d K bq' (mq++[⟨la,ln,lc,l⟩]) wq' (k+1):=by
  refine ⟨by rw [s.bll];exact h.bl,?_,fun b hb x hx=>?_,by rw [s.wl,h.wl];simp,fun i hi=>?_⟩
  · rw [x8 d hk,List.filter_append,List.map_append,h.sub,←hl]
    congr 1
    have:l.isEmpty=false:=by cases l with
      | nil=>exact absurd rfl he
      | cons=>rfl
    simp [this]
  · simp only [List.length_append,List.length_singleton] at hb
    by_cases e:b=mq.length
    · subst e
      unfold fv at hx
      rw [mP] at hx
      have hx':x∈gq d (decide (k=1)) d.acc.length:=hl▸hx
      obtain ⟨i,hi,rfl,_⟩:=gp.1 hx'
      rw [Int.toNat_natCast,s.bv i (by rw [h.bl];exact hi),if_pos hx]
    · have Be:b<mq.length:=by omega
      unfold fv at hx
      rw [lS Be] at hx
      have h1:=h.bv b Be x hx
      have h2:=(h.block Be).2
      rcases (by omega:k=0∨k=1) with rfl|rfl
      · simp at h2
      · have h3:fv mq b=gq d false d.acc.length:=by simpa [Bv] using h2
        have KB:x∈gq d false d.acc.length:=by rw [←h3];exact hx
        obtain ⟨i,hi,rfl,hf⟩:=gp.1 KB
        rw [Int.toNat_natCast] at h1 ⊢
        rw [s.bv i (by rw [h.bl];exact hi),if_neg]
        · exact h1
        · intro h9
          rw [hl] at h9
          obtain ⟨j,hj,e2,ht⟩:=gp.1 h9
          have:i=j:=by omega
          subst this
          rw [hf] at ht;cases ht
  · rw [s.wl] at hi
    by_cases e:i=wq.length
    · subst e;exact s.wn
    · rw [s.wo i oz];exact h.wf i oz
theorem jS.is {d:au} {K:Nat} {bq:List Int} {mq:List (LR Int)} {wq:List (LR Bool)} (h:jS d K bq mq wq 2):(∀i,i<d.acc.length→∃b,b<mq.length∧fv mq b=gq d (d.acc.getD i false) d.acc.length∧bq.getD i 0=((b:Nat):Int))∧∀b,b<mq.length→∃v,fv mq b=gq d v d.acc.length:=by
  constructor
  · intro i hi
    have hm:(i:Int)∈gq d (d.acc.getD i false) d.acc.length:=gp.2 ⟨i,hi,rfl,rfl⟩
    have h1:gq d (d.acc.getD i false) d.acc.length∈mq.map LR.xs:=by
      rw [h.sub,List.mem_filter]
      refine ⟨?_,?_⟩
      · show _∈(Bv d).take 2
        cases d.acc.getD i false<;>simp [Bv]
      · have:=List.ne_nil_of_mem hm
        cases hc:gq d (d.acc.getD i false) d.acc.length with
        | nil=>exact absurd hc this
        | cons=>rfl
    obtain ⟨b,hb,e⟩:=List.mem_iff_getElem.1 h1
    have Be:b<mq.length:=by simpa using hb
    have e2:fv mq b=gq d (d.acc.getD i false) d.acc.length:=by
      have:=G9 Be
      rw [List.getElem?_eq_getElem hb,e] at this
      exact (Option.some.inj this).symm
    exact ⟨b,Be,e2,by have:=h.bv b Be (i:Int) (by rw [e2];exact hm);rwa [Int.toNat_natCast] at this⟩
  · intro b hb
    have h1:=(h.block hb).2
    have h2:fv mq b=gq d false d.acc.length∨fv mq b=gq d true d.acc.length:=by simpa [Bv] using h1
    rcases h2 with h2|h2
    · exact ⟨_,h2⟩
    · exact ⟨_,h2⟩
theorem jS.part {d:au} {K:Nat} {bq:List Int} {mq:List (LR Int)} {wq:List (LR Bool)} (h:jS d K bq mq wq 2):nD d.acc.length bq mq∧Vg d bq∧ZT d bq:=by
  obtain ⟨i1,i2⟩:=h.is
  refine ⟨⟨h.bl,fun i hi=>?_,fun b hb x=>?_,fun b hb=>?_,fun b hb=>(h.block hb).1⟩,fun p q hp hq bm=>?_,fun p q hp hq e=>?_⟩
  · obtain ⟨b,hb,_,e⟩:=i1 i hi
    omega
  · constructor
    · intro hx
      obtain ⟨v,hv⟩:=i2 b hb
      have KB:=hx
      rw [hv] at KB
      obtain ⟨i,hi,rfl,_⟩:=gp.1 KB
      have:=h.bv b hb _ hx
      rw [Int.toNat_natCast] at this
      exact ⟨i,hi,rfl,this⟩
    · rintro ⟨i,hi,rfl,e⟩
      obtain ⟨b',Be,e2,e3⟩:=i1 i hi
      have:b'=b:=by omega
      subst this
      rw [e2];exact gp.2 ⟨i,hi,rfl,rfl⟩
  · obtain ⟨v,hv⟩:=i2 b hb
    rw [hv];exact O1 _ _ _
  · refine ⟨0,fun e=>bm ?_⟩
    obtain ⟨b,hb,e2,e3⟩:=i1 p hp
    obtain ⟨b',Be,e4,e5⟩:=i1 q hq
    have hqm:(q:Int)∈fv mq b:=by rw [e2,e];exact gp.2 ⟨q,hq,rfl,rfl⟩
    have:=h.bv b hb _ hqm
    rw [Int.toNat_natCast] at this
    rw [e3,this]
  · obtain ⟨b,hb,e2,e3⟩:=i1 p hp
    obtain ⟨b',Be,e4,e5⟩:=i1 q hq
    have:b=b':=by omega
    subst this
    have hpm:(p:Int)∈gq d (d.acc.getD q false) d.acc.length:=by rw [←e4,e2];exact gp.2 ⟨p,hp,rfl,rfl⟩
    obtain ⟨i,hi,e6,e7⟩:=gp.1 hpm
    have:p=i:=by omega
    subst this;exact e7
theorem jS.adO {d:au} (hr:aD d=true) {bq:List Int} {mq:List (LR Int)} {wq:List (LR Bool)} (h:jS d (aZ d).length bq mq wq 2) (bm:¬((mq.length:Nat):Int)=2):kA d bq mq [] wq (fun _ _ _=>False):=by
  obtain ⟨p1,p2,p3⟩:=h.part
  have JL:=h.ue
  refine ⟨p1,⟨h.wl,fun b hb=>by rw [h.wf b (by rw [h.wl];exact hb)];simp,fun b c hb hc h9=>?_,fun t ht=>by simp at ht⟩,fun k p q hk hp hq e hn=>?_,p2,p3⟩
  · rw [wM (h.wf b (by rw [h.wl];exact hb))] at h9;cases h9
  · have r1:=p1.kC _ (k4 hr hk hp).1
    have r2:=p1.kC _ (k4 hr hk hq).1
    exact absurd oz hn
structure R7 (K:Nat) (wt:List (LR Bool)) (td:List (Int×Int)) (c:Nat):Prop where
  len:wt.length=2
  row:∀b,b<2→(wt.getD b ae).xs.length=K
  todo:∀b k,b<2→k<K→cG wt b k=true→(((b:Nat):Int),((k:Nat):Int))∈td
  done:∀k,k<c→cG wt 0 k=true∨cG wt 1 k=true
  tl:td.length=c
  bd:∀t:Int×Int,t∈td→(0≤t.1∧t.1<2)∧(0≤t.2∧t.2<(K:Int))
theorem R7.start {d:au} {K:Nat} {bq:List Int} {mq:List (LR Int)} {wq:List (LR Bool)} (h:jS d K bq mq wq 2) (h2:((mq.length:Nat):Int)=2):R7 K wq [] 0:=by
  have hl:wq.length=2:=by rw [h.wl];omega
  refine ⟨hl,fun b hb=>by rw [h.wf b oz];simp,fun b k hb hk h9=>?_,fun k hk=>by omega,rfl,fun t ht=>by simp at ht⟩
  rw [wM (h.wf b oz)] at h9;cases h9
theorem R7.step {K c:Nat} {wt ph:List (LR Bool)} {td:List (Int×Int)} {x:Int} (h:R7 K wt td c) (hc:c<K) (hx:x=0∨x=1) (s:rS wt x.toNat c true ph):R7 K ph (td++[(x,((c:Nat):Int))]) (c+1):=by
  refine ⟨by rw [s.len];exact h.len,fun b hb=>by rw [s.row];exact h.row b hb,fun b k hb hk h9=>?_,fun k hk=>?_,by simp [h.tl],fun t ht=>?_⟩
  · rw [s.val] at h9
    split at h9
    · rename_i e
      obtain ⟨e1,e2⟩:=e
      subst e2
      have:x=((b:Nat):Int):=by omega
      rw [this];simp
    · exact List.mem_append_left _ (h.todo b k hb hk h9)
  · rw [s.val,s.val]
    by_cases e:k=c
    · subst e
      rcases hx with rfl|rfl
      · left;rw [if_pos ⟨rfl,rfl⟩]
      · right;rw [if_pos ⟨rfl,rfl⟩]
    · rw [if_neg (fun h9=>e h9.2),if_neg (fun h9=>e h9.2)];exact h.done k oz
  · rcases List.mem_append.1 ht with h9|h9
    · exact h.bd t h9
    · rw [List.mem_singleton.1 h9];exact ⟨by simp only;omega,by simp only;omega⟩
theorem jS.Ud {d:au} (hr:aD d=true) {bq:List Int} {mq:List (LR Int)} {wq wt:List (LR Bool)} {td:List (Int×Int)} {c:Nat} (h:jS d (aZ d).length bq mq wq 2) (h2:((mq.length:Nat):Int)=2) (hw:R7 (aZ d).length wt td c) (hc:c=(aZ d).length):kA d bq mq td wt (fun _ _ _=>False):=by
  obtain ⟨p1,p2,p3⟩:=h.part
  have JL:mq.length=2:=by omega
  refine ⟨p1,⟨by rw [hw.len,JL],fun b hb=>hw.row b oz,fun b k hb hk h9=>hw.todo b k oz hk h9,fun t ht=>by rw [JL];exact hw.bd t ht⟩,fun k p q hk hp hq e hn=>?_,p2,p3⟩
  have r1:=p1.kC _ (k4 hr hk hp).1
  have r2:=p1.kC _ (k4 hr hk hq).1
  have h0:=hw.done k oz
  have hv:bk bq (dl d k p)=0∧bk bq (dl d k q)=1∨bk bq (dl d k p)=1∧bk bq (dl d k q)=0:=by unfold bk;omega
  rcases hv with ⟨e1,e2⟩|⟨e1,e2⟩
  · rw [e1,e2]
    rcases h0 with h0|h0
    · exact .inl h0
    · exact .inr (.inl h0)
  · rw [e1,e2]
    rcases h0 with h0|h0
    · exact .inr (.inl h0)
    · exact .inl h0
theorem S3 {n K m m2 t t2:Nat} (h:m≤m2) (hn:m2≤n) (e:t2+m*K=t+m2*K):(n-m2)*K+t2=(n-m)*K+t:=by
  obtain ⟨a,rfl⟩:=Nat.le.dest h
  obtain ⟨b,rfl⟩:=Nat.le.dest hn
  have e1:m+a+b-(m+a)=b:=by omega
  have e2:m+a+b-m=a+b:=by omega
  rw [e1,e2,Nat.add_mul]
  rw [Nat.add_mul] at e
  omega
theorem OQ {td:List (Int×Int)} {K nb:Nat} {wt:List (LR Bool)} (h:R8 K nb td wt) (hl:0<td.length):
    td=td.take (td.length-1)++[((((td.getD (td.length-1) (0,0)).1.toNat:Nat):Int),(((td.getD (td.length-1) (0,0)).2.toNat:Nat):Int))]∧0≤(td.getD (td.length-1) (0,0)).1∧0≤(td.getD (td.length-1) (0,0)).2:=by
  have hm:td.getD (td.length-1) (0,0)∈td:=ak oz
  have hb:=h.bd _ hm
  refine ⟨?_,hb.1.1,hb.2.1⟩
  rw [Int.toNat_of_nonneg hb.1.1,Int.toNat_of_nonneg hb.2.1]
  have h1:=bS (l:=td) (k:=td.length-1) (0,0) oz
  rw [show td.length-1+1=td.length by omega,List.take_length] at h1
  exact h1
noncomputable def ep (d:au):List Int:=if aD d=true then xS d else []
noncomputable def rP (d:au):Int:=if aD d=true then ((dd (pF d)).length:Int) else 0
theorem GR {n i:Nat} {a:Int} (hi:i<n):(List.replicate n a).getD i 0=a:=by rw [List.getD_eq_getElem?_getD,List.getElem?_replicate,if_pos hi];rfl
structure R9 (d:au) (bl:List Int) (s:Nat) (to:List Int) (k:Nat):Prop where
  len:to.length=259
  val:∀i,i<k→to.getD i 0=fG bl (bO d (s:Int) (i:Int))
theorem R9.start (d:au) (bl:List Int) (s:Nat):R9 d bl s (List.replicate 259 0) 0:=⟨List.length_replicate,fun i hi=>by omega⟩
theorem R9.step {d:au} {bl to:List Int} {s k:Nat} {v:Int} (h:R9 d bl s to k) (hk:k<259) (hv:v=fG bl (bO d (s:Int) (k:Int))):R9 d bl s (to.set k v) (k+1):=by
  refine ⟨by simp [h.len],fun i hi=>?_⟩
  rw [lR (by rw [h.len];exact hk)]
  split
  · rename_i e;subst e;exact hv
  · exact h.val i oz
structure KL (d:au) (bl cl:List Int) (w:Int) (k:Nat):Prop where
  len:cl.length=259
  ker:∀i j,i<259→j<259→(cl.getD i 0=cl.getD j 0↔∀s:Nat,s<k→To d d.start (s:Int)→fG bl (bO d (s:Int) (i:Int))=fG bl (bO d (s:Int) (j:Int)))
  num:(∃s:Nat,s<k∧To d d.start (s:Int))→∃z:List (Int×Int),z.length=259∧cl=bV z∧w=((dd z).length:Int)
theorem KL.start (d:au) (bl:List Int):KL d bl (List.replicate 259 0) 0 0:=⟨List.length_replicate,fun i j hi hj=>⟨fun _ s hs=>by omega,fun _=>by rw [GR hi,GR hj]⟩,fun ⟨s,hs,_⟩=>by omega⟩
theorem KL.skip {d:au} {bl cl:List Int} {w:Int} {k:Nat} (h:KL d bl cl w k) (hn:¬To d d.start (k:Int)):KL d bl cl w (k+1):=by
  have key:∀s:Nat,s<k+1→To d d.start (s:Int)→s<k:=fun s hs ht=>by
    by_cases e:s=k
    · subst e;exact absurd ht hn
    · omega
  refine ⟨h.len,fun i j hi hj=>?_,fun ⟨s,hs,ht⟩=>h.num ⟨s,key s hs ht,ht⟩⟩
  rw [h.ker i j hi hj]
  exact ⟨fun h9 s hs ht=>h9 s (key s hs ht) ht,fun h9 s hs ht=>h9 s oz ht⟩
theorem KL.join {d:au} {bl cl to:List Int} {w:Int} {k j:Nat} (h:KL d bl cl w k) (ht:To d d.start (k:Int)) (RF:R9 d bl k to j) (hj:j=259):KL d bl (eJ cl to) (ja cl to) (k+1):=by
  subst hj
  have RP:=h.len
  have VA:=RF.len
  have hl:cl.length=to.length:=by omega
  have hz:(cl.zip to).length=259:=by simp [RP,VA]
  have JN:(eJ cl to).length=259:=by rw [JD hl,RP]
  have e1:eJ cl to=bV (cl.zip to):=by unfold eJ;rw [if_pos hl]
  refine ⟨JN,fun i j hi hj=>?_,fun _=>⟨cl.zip to,hz,e1,by unfold ja;rw [if_pos hl]⟩⟩
  have h1:=kT (l:=cl.zip to) (i:=i) (k:=j) oz oz
  have gz:∀i,i<259→(cl.zip to)[i]?=some (cl.getD i 0,to.getD i 0):=fun i hi=>by
    rw [List.getElem?_eq_getElem oz,List.getElem_zip]
    simp [List.getD_eq_getElem?_getD,List.getElem?_eq_getElem (show i<cl.length by omega),List.getElem?_eq_getElem (show i<to.length by omega)]
  have gn:∀i,i<259→(bV (cl.zip to))[i]?=some ((eJ cl to).getD i 0):=fun i hi=>by
    rw [e1]
    simp [List.getD_eq_getElem?_getD,List.getElem?_eq_getElem (show i<(bV (cl.zip to)).length by rw [←e1,JN];exact hi)]
  rw [gn i hi,gn j hj,gz i hi,gz j hj] at h1
  simp only [Option.some.injEq,Prod.mk.injEq] at h1
  rw [h1,h.ker i j hi hj,RF.val i hi,RF.val j hj]
  constructor
  · rintro ⟨a,b⟩ s hs hts
    by_cases e:s=k
    · subst e;exact b
    · exact a s oz hts
  · intro a
    exact ⟨fun s hs hts=>a s oz hts,a k oz ht⟩
theorem KL.fin {d:au} (hr:aD d=true) {bl cl:List Int} {w:Int} {k:Nat} (hb:x3 d bl) (h:KL d bl cl w k) (hk:k=d.acc.length):cl=bV (c8 d)∧w=((dd (c8 d)).length:Int):=by
  subst hk
  have hs:=(bh.1 hr).1.2.2.2.2.2.2
  obtain ⟨z,hz,e1,e2⟩:=h.num ⟨d.start.toNat,by omega,by rw [Int.toNat_of_nonneg hs.1];exact .refl _⟩
  have As:=(jq d).len
  have hk:∀i j,i<259→j<259→(z[i]?=z[j]?↔(c8 d)[i]?=(c8 d)[j]?):=fun i j hi hj=>by
    have h1:=kT (l:=z) (i:=i) (k:=j) oz oz
    rw [←e1] at h1
    have gc:∀i,i<259→cl[i]?=some (cl.getD i 0):=fun i hi=>by
      simp [List.getD_eq_getElem?_getD,List.getElem?_eq_getElem (show i<cl.length by rw [h.len];exact hi)]
    have gf:∀i,i<259→(c8 d)[i]?=some ((c8 d).getD i 0):=fun i hi=>by
      simp [List.getD_eq_getElem?_getD,List.getElem?_eq_getElem (show i<(c8 d).length by omega)]
    rw [←h1,gc i hi,gc j hj,gf i hi,gf j hj]
    simp only [Option.some.injEq]
    rw [h.ker i j hi hj,(jq d).kernel (GC d 259) hi hj]
    have key:∀s:Nat,s<d.acc.length→(fG bl (bO d (s:Int) (i:Int))=fG bl (bO d (s:Int) (j:Int))↔pJ d (bO d (s:Int) (i:Int)) d (bO d (s:Int) (j:Int))):=fun s hs=>
      hb _ _ (oP hr oz oz oz) (oP hr oz oz oz)
    exact ⟨fun a s hs ht=>(key s hs).1 (a s hs ht),fun a s hs ht=>(key s hs).2 (a s hs ht)⟩
  have h9:=vE 259 z (c8 d) hz As hk
  exact ⟨by rw [e1,h9.1],by rw [e2,h9.2]⟩
noncomputable def iF (d:au):au:=if aD d=true then dZ d else ⟨[],0,0,[],[]⟩
def sC (d:au):Int:=if aD d=true then 0 else 3
theorem rk {d:au} (hr:aD d=true):iF d=dZ d∧sC d=0:=⟨by rw [iF,if_pos hr],by rw [sC,if_pos hr]⟩
theorem Jx {d:au} (hr:¬aD d=true):iF d=⟨[],0,0,[],[]⟩∧sC d=3:=⟨by rw [iF,if_neg hr],by rw [sC,if_neg hr]⟩
def Gn (m:Nat) (t:aR):Prop:=1≤t.kind∧t.kind≤5∧(t.kind≠1→t.set=Bs.zero)∧(t.kind≠3→t.b=0)∧0≤t.a∧t.a<(m:Int)∧0≤t.b∧t.b<(m:Int)
def fV (m:Nat) (s:List aR):Prop:=∀t,t∈s→Gn m t
theorem fV.nil (m:Nat):fV m []:=fun t h=>by cases h
theorem fV.app {m:Nat} {s u:List aR} (h:fV m s) (h':fV m u):fV m (s++u):=fun t ht=>(List.mem_append.1 ht).elim (h t) (h' t)
theorem fV.one {m:Nat} {t:aR} (h:Gn m t):fV m [t]:=fun u hu=>by rw [List.mem_singleton] at hu;rw [hu];exact h
theorem fV.at {m:Nat} {s:List aR} (h:fV m s) {i:Nat} (hi:i<s.length):Gn m (s.getD i ay):=h _ (ak hi)
theorem Gn.emp {m:Nat} (h:0<m):Gn m emp:=⟨by decide,by decide,fun _=>rfl,fun _=>rfl,by decide,by show (0:Int)<m;omega,by decide,by show (0:Int)<m;omega⟩
theorem Gn.split {m:Nat} {a b:Int} (ha:0≤a∧a<m) (hb:0≤b∧b<m):Gn m ⟨3,a,b,Bs.zero⟩:=⟨by simp,by simp,fun _=>rfl,fun h9=>absurd rfl h9,ha.1,ha.2,hb.1,hb.2⟩
theorem fV.dy {m:Nat} {s:List aR} (h:fV m s) (i:Nat) {v:Int} (hv:0≤v∧v<m):fV m (dy s i v):=fun t ht=>by
  by_cases hi:i<s.length
  · unfold Sx.dy at ht
    rcases List.mem_or_eq_of_mem_set ht with h1|h1
    · exact h t h1
    · obtain ⟨g1,g2,g3,g4,g5,g6,g7,g8⟩:=h.at hi
      subst h1;exact ⟨g1,g2,g3,g4,hv.1,hv.2,g7,g8⟩
  · unfold Sx.dy at ht
    rw [List.set_eq_of_length_le oz] at ht;exact h t ht
theorem fV.qP {m:Nat} {s:List aR} (h:fV m s) {i:Nat} {v:Int} (hk:(s.getD i ay).kind=3) (hv:0≤v∧v<m):fV m (qP s i v):=fun t ht=>by
  by_cases hi:i<s.length
  · unfold Sx.qP at ht
    rcases List.mem_or_eq_of_mem_set ht with h1|h1
    · exact h t h1
    · obtain ⟨g1,g2,g3,g4,g5,g6,g7,g8⟩:=h.at hi
      subst h1;exact ⟨g1,g2,g3,fun h9=>absurd hk h9,g5,g6,hv.1,hv.2⟩
  · unfold Sx.qP at ht
    rw [List.set_eq_of_length_le oz] at ht;exact h t ht
theorem ez (s:List aR) (i:Nat) (v:Int) (j:Nat):((dy s i v).getD j ay).kind=(s.getD j ay).kind:=by
  rw [bo];split
  · rename_i h;rw [h.1]
  · rfl
theorem IU (s:List aR) (i:Nat) (v:Int) (j:Nat):((qP s i v).getD j ay).kind=(s.getD j ay).kind:=by
  rw [qO];split
  · rename_i h;rw [h.1]
  · rfl
theorem fV.fK {m:Nat} {v:Int} (hv:0≤v∧v<m):∀(l:List Nat) {s:List aR},fV m s→(∀i,i∈l→(s.getD i ay).kind=3)→fV m (fK s l v)
  | [],s,h,_=>h
  | i::l,s,h,hk=>by
    simp only [Sx.fK,List.foldl_cons]
    exact fV.fK hv l (h.qP (hk i List.mem_cons_self) hv) (fun j hj=>by rw [IU];exact hk j (List.mem_cons_of_mem _ hj))
def Mg (f:List aR→Pt) (z:Nat) (m:Nat):Prop:=∀s,s.length+z≤m→fV m s→fV m (f s).s
theorem Hg {f:List aR→Pt} {z m:Nat} (hf:Mk f z) (hg:Mg f z m) {x:List aR×Nat} :∀k,x.1.length+k*z≤m→fV m x.1→fV m (eW f k x).1
  | 0,_,h=>h
  | k+1,hm,h=>by
    rw [Nat.succ_mul] at hm
    have ih:=Hg hf hg (x:=x) k oz h
    have hl:=o4 hf x k
    have hk:=hf (eW f k x).1
    simp only [eW]
    exact (hg _ oz ih).dy _ ⟨by omega,by omega⟩
theorem Ar {f:List aR→Pt} {z m:Nat} (hf:Mk f z) (hg:Mg f z m) {x:List aR×Nat} :∀k,x.1.length+k*(z+1)≤m→fV m x.1→x.2<x.1.length→fV m (cY f k x).1∧∀i,i∈(cY f k x).2.2→((cY f k x).1.getD i ay).kind=3∧i<(cY f k x).1.length
  | 0,_,h,_=>⟨h,fun i hi=>by simp [cY] at hi⟩
  | k+1,hm,h,hx=>by
    rw [Nat.succ_mul] at hm
    have ih:=Ar hf hg (x:=x) k oz h hx
    have hl:=kV hf x k
    have hk:=hf (cY f k x).1
    simp only [cY]
    refine ⟨?_,fun i hi=>?_⟩
    · refine ((hg _ oz ih.1).app (fV.one (Gn.split oz oz))).dy _ ⟨by omega,by omega⟩
    · rw [ez,cK]
      rcases List.mem_append.1 hi with h1|h1
      · obtain ⟨h2,h3⟩:=ih.2 i h1
        rw [bM oz,hk.2.2.2.2.2 i oz,List.length_append]
        exact ⟨h2,by omega⟩
      · rw [List.mem_singleton] at h1;subst h1
        refine ⟨?_,by simp⟩
        rw [List.getD_eq_getElem?_getD,List.getElem?_append_right (Nat.le_refl _)];simp
theorem Lz {f:List aR→Pt} {z m:Nat} (hf:Mk f z) (hg:Mg f z m) (n:Nd):Mg (jE f n) (2+n.lo.toNat*z+(if n.hi<0 then z+1 else (n.hi-n.lo).toNat*(z+1))) m:=by
  intro s hm h
  have a0:fV m (s++[emp]):=h.app (fV.one (Gn.emp oz))
  have a1:=o4 hf (s++[emp],s.length) n.lo.toNat
  have a2:=mG hf (x:=(s++[emp],s.length)) (n:=s.length) (Nat.le_refl _) (by simp) n.lo.toNat
  simp only [List.length_append,List.length_singleton] at a1
  have Tz:s.length+1+n.lo.toNat*z≤m:=by split at hm<;>omega
  have a3:=Hg hf hg (x:=(s++[emp],s.length)) n.lo.toNat im a0
  unfold jE
  by_cases hh:n.hi<0
  · rw [if_pos hh] at hm ⊢
    have b1:=kV hf (eW f n.lo.toNat (s++[emp],s.length)) 1
    have b2:=mM hf (x:=eW f n.lo.toNat (s++[emp],s.length)) (n:=0) (Nat.zero_le _) a2.2.1 1
    have b3:=Ar hf hg (x:=eW f n.lo.toNat (s++[emp],s.length)) 1 oz a3 a2.2.1
    have b4:=b2.2.2.1 ((cY f 1 (eW f n.lo.toNat (s++[emp],s.length))).2.2.getD 0 0) (ak oz)
    refine fV.fK ⟨by omega,by omega⟩ _ ((b3.1.app (fV.one (Gn.emp oz))).dy _ ⟨by omega,by omega⟩) (fun i hi=>?_)
    rw [ez,bM (b3.2 i hi).2];exact (b3.2 i hi).1
  · rw [if_neg hh] at hm ⊢
    have b1:=kV hf (eW f n.lo.toNat (s++[emp],s.length)) (n.hi-n.lo).toNat
    have b3:=Ar hf hg (x:=eW f n.lo.toNat (s++[emp],s.length)) (n.hi-n.lo).toNat oz a3 a2.2.1
    refine fV.fK ⟨by omega,by omega⟩ _ ((b3.1.app (fV.one (Gn.emp oz))).dy _ ⟨by omega,by omega⟩) (fun i hi=>?_)
    rw [ez,bM (b3.2 i hi).2];exact (b3.2 i hi).1
theorem oZ (m:Nat):∀T:Tr,T.wk→fM T→Mg (aW T) (bA T) m
  | .leaf n,hw,ho=>fun s hm h=>by
    simp only [aW,bA] at hm ⊢
    have hs:=cW.set (n:=n) ho.root
    simp only [Tr.wk] at hw
    refine h.app (fun t ht=>?_)
    simp only [List.mem_cons,List.not_mem_nil,or_false] at ht
    rcases ht with rfl|rfl
    · unfold jL Gn
      simp only
      refine ⟨by (repeat split)<;>omega,by (repeat split)<;>omega,fun h9=>hs (fun h8=>?_),fun _=>trivial,by omega,by omega,by omega,by omega⟩
      rw [if_neg oz,if_neg oz] at h9;exact h9 h8
    · exact Gn.emp oz
  | .rep n a,hw,ho=>Lz (gb a) (oZ m a hw.2 ho.rep) n
  | .bin n a b,hw,ho=>fun s hm h=>by
    have h1:=gb a s
    have h2:=gb b (aW a s).s
    simp only [aW,bA] at hm ⊢
    by_cases hk:n.kind=5
    · rw [if_pos hk] at hm ⊢
      have g1:=oZ m a hw.2.1 ho.kO s oz h
      have g2:=oZ m b hw.2.2 ho.kN _ oz g1
      exact g2.dy _ ⟨by omega,by omega⟩
    · rw [if_neg hk] at hm ⊢
      have g1:=oZ m a hw.2.1 ho.kO s oz h
      have g2:=oZ m b hw.2.2 ho.kN _ oz g1
      refine ((g2.app (fun t ht=>?_)).dy _ ⟨by omega,by omega⟩).dy _ ⟨by omega,by omega⟩
      simp only [List.mem_cons,List.not_mem_nil,or_false] at ht
      rcases ht with rfl|rfl
      · exact Gn.split oz oz
      · exact Gn.emp oz
theorem qC.okN {l:List Nd} {st:List aR} {s0 f0:Int} (h:qC l st s0 f0 0):rU st s0 f0:=by
  rcases h with ⟨_,_,_,_,h⟩|⟨T,h1,h2,h3,⟨_,_,_,_,h⟩|⟨hz,rfl,rfl,rfl,_⟩⟩
  · omega
  · omega
  have hsu:=size_eq T h1 h3 oz
  have VK:=gb T []
  have jv:=oZ (bA T) T h1 h3 [] (by simp) (fV.nil _)
  simp only [List.length_nil,Nat.zero_add] at VK
  refine ⟨by rw [List.length_set];omega,by rw [List.length_set];omega,by rw [List.length_set];omega,fun i hi=>?_⟩
  rw [List.length_set] at hi ⊢
  by_cases e:i=(aW T []).last
  · subst e
    rw [List.getD_eq_getElem?_getD,List.getElem?_set_self hi]
    exact ⟨⟨by decide,by decide,fun _=>rfl,fun _=>rfl,fun _=>rfl,by decide,by show (0:Int)<_;omega,by decide,by show (0:Int)<_;omega⟩,fun _=>rfl,fun _=>rfl⟩
  · rw [List.getD_eq_getElem?_getD,List.getElem?_set_ne oz,←List.getD_eq_getElem?_getD]
    obtain ⟨g1,g2,g3,g4,g5,g6,g7,g8⟩:=jv.at (i:=i) hi
    rw [←VK.1] at g6 g8
    exact ⟨⟨g1,by omega,g3,g4,fun h9=>by omega,g5,g6,g7,g8⟩,fun h9=>by omega,fun h9=>by omega⟩
def z7 (t:Lv):Nat:=(if t.aL>0 then 1 else 0)+(if t.parts>0 then 1 else 0)
def wL:List Lv→Nat
  | []=>0
  | t::l=>z7 t+wL l
theorem wK:∀(a b:List Lv),wL (a++b)=wL a+wL b
  | [],b=>by simp [wL]
  | t::a,b=>by simp only [List.cons_append,wL,wK a b];omega
def EA (b:Bool):Nat:=if b=true then 1 else 0
def xX (p:PS) (S:List Lv) (t:Lv) (F:List Tr):Prop:=
  p.st=S++[t]∧(∀T,T∈F→T.wk∧fM T)∧p.out=bp F∧F.length=wL S+z7 t+EA p.fh∧0≤t.parts∧0≤t.aL∧∀u,u∈S→0≤u.parts∧0≤u.aL
theorem Xn {α:Type} {F:List α} (h:2≤F.length):∃G a b,F=G++[a,b]:=by
  obtain ⟨G,b,rfl⟩:=List.eq_nil_or_concat F|>.resolve_left (fun h9=>by simp [h9] at h)
  obtain ⟨G',a,rfl⟩:=List.eq_nil_or_concat G|>.resolve_left (fun h9=>by simp [h9] at h)
  exact ⟨G',a,b,by simp⟩
theorem Mt {α:Type} {F:List α} (h:1≤F.length):∃G a,F=G++[a]:=by
  obtain ⟨G,b,rfl⟩:=List.eq_nil_or_concat F|>.resolve_left (fun h9=>by simp [h9] at h)
  exact ⟨G,b,by simp⟩
theorem uA {k:Int} (h:k≠7):cW (nd k)=true:=by unfold cW nd;simp [h]
theorem Ig {k:Int} {a b:Tr} (hk:k≠7) (ha:fM a) (hb:fM b):fM (.bin (nd k) a b):=fun n hn=>by
  simp only [Tr.flat,List.mem_append,List.mem_singleton] at hn
  rcases hn with (h|h)|h
  · exact ha n h
  · exact hb n h
  · rw [h];exact uA hk
theorem vP {n:Nd} (h:cW n=true):fM (.leaf n):=fun x hx=>by
  simp only [Tr.flat,List.mem_singleton] at hx;rw [hx];exact h
theorem RB {F:List Tr} {k:Int} (hk:k=5∨k=6) (hF:∀T,T∈F→T.wk∧fM T) (h2:2≤F.length):∃F',(∀T,T∈F'→T.wk∧fM T)∧bp F'=bp F++[nd k]∧F'.length+1=F.length:=by
  obtain ⟨G,a,b,rfl⟩:=Xn h2
  have ha:=hF a (by simp)
  have hb:=hF b (by simp)
  refine ⟨G++[.bin (nd k) a b],fun T hT=>?_,?_,by simp⟩
  · rcases List.mem_append.1 hT with h|h
    · exact hF T (by simp [h])
    · rw [List.mem_singleton] at h;subst h
      exact ⟨⟨by unfold nd;simp only [];omega,ha.1,hb.1⟩,Ig oz ha.2 hb.2⟩
  · rw [bJ,bJ,cb]
    simp [bp,Tr.flat]
theorem U6 {F:List Tr} {T0:Tr} (h0:T0.wk∧fM T0) (hF:∀T,T∈F→T.wk∧fM T):(∀T,T∈F++[T0]→T.wk∧fM T)∧bp (F++[T0])=bp F++T0.flat∧(F++[T0]).length=F.length+1:=by
  refine ⟨fun T hT=>?_,by rw [bJ,cb],by simp⟩
  rcases List.mem_append.1 hT with h|h
  · exact hF T h
  · rw [List.mem_singleton] at h;subst h;exact h0
theorem xX.join {p:PS} {S:List Lv} {t:Lv} {F:List Tr} (h:xX p S t F):∃t' F',xX (aO p) S t' F'∧t'.aL=t.aL∧(aO p).fh=false:=by
  obtain ⟨h1,h2,h3,h4,h5,h6,h7⟩:=h
  unfold aO
  by_cases hr:p.fh=true
  · rw [if_pos hr]
    have ht:iU p.st=t:=by rw [h1,uW]
    have hs:∀u,dY p.st u=S++[u]:=fun u=>by rw [h1,p9]
    rw [ht,hs]
    rw [hr] at h4
    simp only [EA,if_true] at h4
    by_cases hp:t.parts>0
    · rw [if_pos oz]
      have hv:z7 t=(if t.aL>0 then 1 else 0)+1:=by unfold z7;rw [if_pos hp]
      obtain ⟨F',g1,g2,g3⟩:=RB (k:=5) (.inl rfl) h2 oz
      refine ⟨_,F',⟨rfl,g1,by rw [g2,h3],?_,by simp only [];omega,h6,h7⟩,rfl,rfl⟩
      simp only [EA,z7,Bool.false_eq_true,if_false]
      rw [if_pos (show t.parts+1>0 by omega)];omega
    · rw [if_neg oz]
      have hv:z7 t=(if t.aL>0 then 1 else 0)+0:=by unfold z7;rw [if_neg hp]
      refine ⟨_,F,⟨rfl,h2,h3,?_,by simp only [];omega,h6,h7⟩,rfl,rfl⟩
      simp only [EA,z7,Bool.false_eq_true,if_false]
      rw [if_pos (show t.parts+1>0 by omega)];omega
  · rw [if_neg hr]
    exact ⟨t,F,⟨h1,h2,h3,h4,h5,h6,h7⟩,rfl,by simpa using hr⟩
theorem xX.leaf {p:PS} {S:List Lv} {t:Lv} {F:List Tr} {n:Nd} (h:xX p S t F) (hk:n.kind=1∨n.kind=2∨n.kind=3∨n.kind=4) (hn:cW n=true):∃t' F',xX (eX p n) S t' F':=by
  obtain ⟨t',F',⟨h1,h2,h3,h4,h5,h6,h7⟩,_,hr⟩:=h.join
  obtain ⟨g1,g2,g3⟩:=U6 (T0:= .leaf n) ⟨by simpa only [Tr.wk] using hk,vP hn⟩ h2
  refine ⟨t',F'++[.leaf n],h1,g1,?_,?_,h5,h6,h7⟩
  · show (aO p).out++[n]=_
    rw [g2,h3];rfl
  · rw [hr] at h4
    simp only [eX,EA,if_true];simp only [EA,Bool.false_eq_true,if_false] at h4;omega
theorem xX.choice {p:PS} {S:List Lv} {t:Lv} {F:List Tr} (h:xX p S t F):∃t' F',xX (bD p) S t' F'∧t'.aL>0∧t'.parts=0∧(bD p).fh=false:=by
  obtain ⟨u,F1,⟨h1,h2,h3,h4,h5,h6,h7⟩,hc,hr⟩:=h.join
  have ht:iU (aO p).st=u:=by rw [h1,uW]
  have hs:∀v,dY (aO p).st v=S++[v]:=fun v=>by rw [h1,p9]
  rw [hr] at h4
  simp only [EA,Bool.false_eq_true,if_false] at h4
  have hE:∃F2,(∀T,T∈F2→T.wk∧fM T)∧kt (aO p).out u.parts=bp F2∧F2.length=wL S+(if u.aL>0 then 1 else 0)+1:=by
    unfold kt
    by_cases hp:u.parts=0
    · rw [if_pos hp]
      obtain ⟨g1,g2,g3⟩:=U6 (T0:= .leaf (nd 2)) ⟨by simp [Tr.wk,nd],vP (uA oz)⟩ h2
      refine ⟨F1++[.leaf (nd 2)],g1,by rw [g2,h3];rfl,?_⟩
      have hv:z7 u=(if u.aL>0 then 1 else 0)+0:=by unfold z7;rw [if_neg (show¬u.parts>0 by omega)]
      omega
    · rw [if_neg hp]
      have hv:z7 u=(if u.aL>0 then 1 else 0)+1:=by unfold z7;rw [if_pos (show u.parts>0 by omega)]
      exact ⟨F1,h2,h3,by omega⟩
  obtain ⟨F2,e1,e2,e3⟩:=hE
  unfold bD
  rw [ht,hs,e2]
  unfold vx
  by_cases hp:u.aL>0
  · rw [if_pos oz]
    rw [if_pos hp] at e3
    obtain ⟨F3,g1,g2,g3⟩:=RB (k:=6) (.inr rfl) e1 oz
    refine ⟨_,F3,⟨rfl,g1,g2.symm,?_,by simp,by simp only [];omega,h7⟩,by simp only [];omega,rfl,rfl⟩
    simp only [EA,z7,Bool.false_eq_true,if_false]
    rw [if_pos (show u.aL+1>0 by omega)];simp;omega
  · rw [if_neg oz]
    rw [if_neg hp] at e3
    refine ⟨_,F2,⟨rfl,e1,rfl,?_,by simp,by simp only [];omega,h7⟩,by simp only [];omega,rfl,rfl⟩
    simp only [EA,z7,Bool.false_eq_true,if_false]
    rw [if_pos (show u.aL+1>0 by omega)];simp;omega
def oK (p:PS):Prop:=∃S t F,xX p S t F
theorem oK.start:oK LI:=⟨[],fx,([]:List Tr),⟨rfl,fun T hT=>(List.not_mem_nil hT).elim,rfl,rfl,by decide,by decide,fun u hu=>(List.not_mem_nil hu).elim⟩⟩
theorem oK.open {p:PS} (h:oK p):oK (kj p):=by
  obtain ⟨S,t,F,h⟩:=h
  obtain ⟨t',F',⟨h1,h2,h3,h4,h5,h6,h7⟩,_,hr⟩:=h.join
  refine ⟨S++[t'],fx,F',by unfold kj;simp only [h1],h2,h3,?_,by decide,by decide,fun u hu=>?_⟩
  · rw [hr] at h4
    have e0:z7 fx=0:=rfl
    simp only [EA,Bool.false_eq_true,if_false] at h4
    simp only [kj,EA,Bool.false_eq_true,if_false,wK,wL,e0]
    omega
  · rcases List.mem_append.1 hu with h|h
    · exact h7 u h
    · rw [List.mem_singleton] at h;subst h;exact ⟨h5,h6⟩
theorem oK.close {p:PS} (h:oK p) (hl:p.st.length≠1):oK (iN p):=by
  obtain ⟨S,t,F,h⟩:=h
  have Hu:S≠[]:=fun h9=>hl (by rw [h.1,h9];rfl)
  obtain ⟨t',F',⟨h1,h2,h3,h4,h5,h6,h7⟩,hc,hp,hr⟩:=h.choice
  obtain ⟨S',u,rfl⟩:=Mt (F:=S) (List.length_pos_iff.2 Hu)
  have hu:=h7 u (by simp)
  refine ⟨S',u,F',?_,h2,h3,?_,hu.1,hu.2,fun v hv=>h7 v (by simp [hv])⟩
  · unfold iN;simp only [h1];rw [List.length_append,List.length_singleton,Nat.add_sub_cancel,List.take_left]
  · rw [hr] at h4
    simp only [iN,EA,if_true]
    simp only [EA,Bool.false_eq_true,if_false,wK,wL] at h4
    have:z7 t'=1:=by unfold z7;rw [if_pos hc,if_neg oz]
    omega
theorem oK.rep {p:PS} (h:oK p) (hr:p.fh=true) {n:Nd} (hk:n.kind=7) (hn:cW n=true):oK ⟨p.out++[n],p.st,p.fh⟩:=by
  obtain ⟨S,t,F,h1,h2,h3,h4,h5,h6,h7⟩:=h
  have OF:=h4
  rw [hr] at OF
  simp only [EA,if_true] at OF
  obtain ⟨G,a,rfl⟩:=Mt (F:=F) oz
  have ha:=h2 a (by simp)
  obtain ⟨g1,g2,g3⟩:=U6 (F:=G) (T0:= .rep n a) ⟨⟨hk,ha.1⟩,fun x hx=>by
    simp only [Tr.flat,List.mem_append,List.mem_singleton] at hx
    rcases hx with hx|hx
    · exact ha.2 x hx
    · rw [hx];exact hn⟩ (fun T hT=>h2 T (by simp [hT]))
  refine ⟨S,t,G++[.rep n a],h1,g1,?_,?_,h5,h6,h7⟩
  · simp only [h3];rw [g2,bJ,cb];simp [Tr.flat]
  · rw [g3];simpa using h4
theorem oK.tok {p:PS} {t:Tk} (h:oK p) (he:dM p t=0):oK (fC p t):=by
  unfold fC
  rw [if_neg (by simpa using he)]
  have hl:∀n:Nd,(n.kind=1∨n.kind=2∨n.kind=3∨n.kind=4)→cW n=true→oK (eX p n):=fun n hk hn=>by
    obtain ⟨S,u,F,h⟩:=h
    obtain ⟨u',F',h'⟩:=h.leaf hk hn
    exact ⟨S,u',F',h'⟩
  by_cases h1:t.kind=1
  · rw [if_pos h1];exact hl ⟨1,t.set,0,0⟩ (.inl rfl) (by simp [cW])
  rw [if_neg h1]
  by_cases h2:t.kind=6
  · rw [if_pos h2];exact hl (nd 3) (.inr (.inr (.inl rfl))) (uA oz)
  rw [if_neg h2]
  by_cases h3:t.kind=7
  · rw [if_pos h3];exact hl (nd 4) (.inr (.inr (.inr rfl))) (uA oz)
  rw [if_neg h3]
  by_cases h4:t.kind=2
  · rw [if_pos h4]
    obtain ⟨S,u,F,h⟩:=h
    obtain ⟨u',F',h',_⟩:=h.choice
    exact ⟨S,u',F',h'⟩
  rw [if_neg h4]
  by_cases h5:t.kind=5
  · rw [if_pos h5]
    unfold dM at he
    rw [if_neg oz,if_pos h5] at he
    have hb:¬cX t:=fun h9=>by rw [if_pos h9] at he;omega
    rw [if_neg hb] at he
    have hr:p.fh=true:=Classical.byContradiction fun h9=>by rw [if_neg h9] at he;omega
    refine h.rep hr rfl ?_
    unfold cX at hb
    unfold cW
    simp only [decide_eq_true_eq,if_true]
    exact ⟨by simp,by omega,by omega,by omega⟩
  rw [if_neg h5]
  by_cases h6:t.kind=3
  · rw [if_pos h6];exact h.open
  rw [if_neg h6]
  refine h.close (fun h9=>?_)
  unfold dM at he
  rw [if_neg oz,if_neg h5,if_neg h6] at he
  by_cases h7:t.kind=4
  · rw [if_pos h7,if_pos h9] at he;omega
  · rw [if_neg h7] at he;omega
theorem GG {l:List Tk} :∀k,k≤l.length→(∀j,j<k→eO l j=0)→oK (dE l k)
  | 0,_,_=>oK.start
  | k+1,hk,h=>by
    rw [gW oz]
    exact (GG k oz (fun j hj=>h j oz)).tok (h k oz)
theorem DT.tree {l:List Tk} {e:Int} {o:List Nd} {a:Int} (h:DT l e o a 0):(∃T,T.wk∧fM T∧T.flat=o)∧o.length≤512∧a=0:=by
  rcases h with ⟨k,hk,h1,h2,_,_,h3⟩|⟨h1,⟨_,_,_,h3⟩|⟨h2,⟨_,_,_,h3⟩|⟨h3,rfl,ha,_⟩⟩⟩
  · exact absurd h3.symm h2
  · omega
  · omega
  · refine ⟨?_,h3,ha⟩
    obtain ⟨S,t,F,h⟩:=GG l.length (Nat.le_refl _) h1
    have hS:S=[]:=by
      have h9:=h.1;rw [h9] at h2;simp at h2;exact h2
    subst hS
    obtain ⟨t',F',⟨g1,g2,g3,g4,g5,g6,g7⟩,hc,hp,hr⟩:=h.choice
    rw [hr] at g4
    have hv:z7 t'=1:=by unfold z7;rw [if_pos hc,if_neg oz]
    simp only [EA,Bool.false_eq_true,if_false,wL] at g4
    obtain ⟨G,T,rfl⟩:=Mt (F:=F') oz
    have hG:G=[]:=by simp at g4;exact List.eq_nil_of_length_eq_zero oz
    subst hG
    have:=g2 T (by simp)
    exact ⟨T,this.1,this.2,by rw [g3];simp [bp]⟩
theorem l9.tree {p:ByteArray} {o:List Nd} {a:Int} (h:l9 p o a 0):(∃T,T.wk∧fM T∧T.flat=o)∧o.length≤512∧a=0:=by
  obtain ⟨l,x,y,h1,⟨q1,_,_,q2⟩|⟨_,q⟩⟩:=h
  · exact absurd q2.symm q1
  · exact q.tree
def Oa:Bs:=⟨~~~0#64,~~~0#64,~~~0#64,~~~0#64⟩
def jR (l:List Nd):List Nd:=([⟨1,Oa,0,0⟩,⟨7,Bs.zero,0,-1⟩]++l)++[nd 5]
def s3 (T:Tr):Tr:= .bin (nd 5) (.rep ⟨7,Bs.zero,0,-1⟩ (.leaf ⟨1,Oa,0,0⟩)) T
theorem oE (l:List Nd):(jR l).length=l.length+3:=by simp [jR]
theorem j8 (T:Tr):(s3 T).flat=jR T.flat:=by simp [s3,jR,Tr.flat]
theorem rR {T:Tr} (h:T.wk):(s3 T).wk:=⟨.inl rfl,⟨rfl,.inl rfl⟩,h⟩
theorem Il {T:Tr} (h:fM T):fM (s3 T):=Ig oz (fun n hn=>by
  simp only [Tr.flat,List.mem_append,List.mem_singleton] at hn
  rcases hn with rfl|rfl
  · simp [cW]
  · simp [cW]) h
theorem sZ {T:Tr} (h:T.wk) (ho:fM T):dO (jR T.flat)=decide (T.flat.length≤509):=by
  rw [Bool.eq_iff_iff,decide_eq_true_eq,←j8,kh]
  have:=oE T.flat
  rw [←j8] at this
  exact ⟨fun h9=>by have:=h9.1;omega,fun h9=>⟨by omega,Il ho,_,rR h,rfl⟩⟩
def FX:au:=⟨[],0,0,[],[]⟩
def gv (l:List Nd) (az:Int) (d:au) (er:Int):Prop:=
  ∃st s0 f0 e1,qC l st s0 f0 e1∧((e1≠0∧er=e1∧d=FX)∨(e1=0∧∃d1 e2,pG st s0 f0 az d1 e2∧((e2≠0∧er=e2∧d=FX)∨(e2=0∧er=0∧d=dZ d1))))
theorem gv.uniq {l:List Nd} {az:Int} {d d':au} {e e':Int} (h:gv l az d e) (h':gv l az d' e') (hl:l.length≤512):d=d'∧e=e':=by
  obtain ⟨st,s0,f0,e1,h1,h2⟩:=h
  obtain ⟨st',s0',f0',e1',uI,uH⟩:=h'
  obtain ⟨rfl,rfl,rfl,rfl⟩:=h1.uniq uI hl
  rcases h2 with ⟨a,rfl,rfl⟩|⟨a,d1,e2,h3,h4⟩<;>rcases uH with ⟨b,rfl,rfl⟩|⟨b,d1',e2',P7,OF⟩
  · exact ⟨rfl,rfl⟩
  · exact absurd b a
  · exact absurd a b
  · obtain ⟨rfl,rfl⟩:=h3.uniq P7
    rcases h4 with ⟨c,rfl,rfl⟩|⟨c,rfl,rfl⟩<;>rcases OF with ⟨c',rfl,rfl⟩|⟨c',rfl,rfl⟩
    · exact ⟨rfl,rfl⟩
    · exact absurd c' c
    · exact absurd c c'
    · exact ⟨rfl,rfl⟩
theorem pG.mono {st:List aR} {s0 f0 az tv:Int} {d:au} (h:pG st s0 f0 az d 0) (hm:az≤tv):pG st s0 f0 tv d 0:=by
  obtain ⟨cls,w,os,nx,h1,⟨n,g1,g2,g3⟩,⟨a,_,b⟩|⟨_,a,_⟩⟩:=h
  · have VH:(dX (jm st) [] (aE cls w) (j7 st [s0] 0) n).1=os:=by rw [←g3]
    refine ⟨cls,w,os,nx,h1,⟨n,fun k hk=>⟨(g1 k hk).1,by have:=(g1 k hk).2;omega⟩,fun h9=>g2 ⟨h9.1,by rw [VH];omega⟩,g3⟩,.inl ⟨by omega,rfl,b⟩⟩
  · omega
theorem gv.mono {l:List Nd} {az tv:Int} {d:au} (h:gv l az d 0) (hm:az≤tv):gv l tv d 0:=by
  obtain ⟨st,s0,f0,e1,h1,⟨a,b,_⟩|⟨a,d1,e2,h3,⟨b,c,_⟩|⟨b,_,c⟩⟩⟩:=h
  · exact absurd b.symm a
  · exact absurd c.symm b
  · subst b;exact ⟨st,s0,f0,e1,h1,.inr ⟨a,d1,0,h3.mono hm,.inr ⟨rfl,rfl,c⟩⟩⟩
structure l8 where
  tree:List Nd
  fw:au
  se:au
  bk:au
def jG:l8:=⟨[],FX,FX,FX⟩
def fq (l:List Nd) (back:List Nd) (az:Int) (p:l8) (er:Int):Prop:=
  ∃d1 e1,gv l az d1 e1∧((e1≠0∧er=e1∧p=jG)∨(e1=0∧
    ∃d2 e2,gv (jR l) az d2 e2∧((e2≠0∧er=e2∧p=jG)∨(e2=0∧
      ∃d3 e3,gv (jR back) az d3 e3∧((e3≠0∧er=e3∧p=jG)∨(e3=0∧er=0∧p=⟨l,d1,d2,d3⟩))))))
theorem fq.e1 {l back:List Nd} {az e1:Int} {d1:au} (h:gv l az d1 e1) (he:e1≠0):fq l back az jG e1:=⟨d1,e1,h,.inl ⟨he,rfl,rfl⟩⟩
theorem fq.e2 {l back:List Nd} {az e1 e2:Int} {d1 d2:au} (h:gv l az d1 e1) (he:e1=0) (h2:gv (jR l) az d2 e2) (X5:e2≠0):fq l back az jG e2:=⟨d1,e1,h,.inr ⟨he,d2,e2,h2,.inl ⟨X5,rfl,rfl⟩⟩⟩
theorem fq.e3 {l back:List Nd} {az e1 e2 e3:Int} {d1 d2 d3:au} (h:gv l az d1 e1) (he:e1=0) (h2:gv (jR l) az d2 e2) (X5:e2=0) (h3:gv (jR back) az d3 e3) (he3:e3≠0):fq l back az jG e3:=⟨d1,e1,h,.inr ⟨he,d2,e2,h2,.inr ⟨X5,d3,e3,h3,.inl ⟨he3,rfl,rfl⟩⟩⟩⟩
theorem fq.ok {l back:List Nd} {az e1 e2 e3:Int} {d1 d2 d3:au} (h:gv l az d1 e1) (he:e1=0) (h2:gv (jR l) az d2 e2) (X5:e2=0) (h3:gv (jR back) az d3 e3) (he3:e3=0):fq l back az ⟨l,d1,d2,d3⟩ 0:=⟨d1,e1,h,.inr ⟨he,d2,e2,h2,.inr ⟨X5,d3,e3,h3,.inr ⟨he3,rfl,rfl⟩⟩⟩⟩
theorem fq.uniq {l back:List Nd} {az:Int} {p p':l8} {e e':Int} (h:fq l back az p e) (h':fq l back az p' e') (hl:l.length≤509) (hb:back.length≤509):p=p'∧e=e':=by
  have ha:=oE l
  have hc:=oE back
  obtain ⟨d1,e1,h1,h2⟩:=h
  obtain ⟨d1',e1',uI,uH⟩:=h'
  obtain ⟨rfl,rfl⟩:=h1.uniq uI oz
  rcases h2 with ⟨a,rfl,rfl⟩|⟨a,d2,e2,h3,h4⟩<;>rcases uH with ⟨b,rfl,rfl⟩|⟨b,d2',e2',P7,OF⟩
  · exact ⟨rfl,rfl⟩
  · exact absurd b a
  · exact absurd a b
  obtain ⟨rfl,rfl⟩:=h3.uniq P7 oz
  rcases h4 with ⟨c,rfl,rfl⟩|⟨c,d3,e3,h5,h6⟩<;>rcases OF with ⟨c',rfl,rfl⟩|⟨c',d3',e3',h5',h6'⟩
  · exact ⟨rfl,rfl⟩
  · exact absurd c' c
  · exact absurd c c'
  obtain ⟨rfl,rfl⟩:=h5.uniq h5' oz
  rcases h6 with ⟨c,rfl,rfl⟩|⟨c,rfl,rfl⟩<;>rcases h6' with ⟨c',rfl,rfl⟩|⟨c',rfl,rfl⟩<;>first|exact ⟨rfl,rfl⟩|exact absurd c' c|exact absurd c c'
theorem fq.mono {l back:List Nd} {az tv:Int} {p:l8} (h:fq l back az p 0) (hm:az≤tv):fq l back tv p 0:=by
  obtain ⟨d1,e1,h1,⟨a,b,_⟩|⟨a,d2,e2,h2,⟨b,c,_⟩|⟨b,d3,e3,h3,⟨c,q,_⟩|⟨c,_,q⟩⟩⟩⟩:=h
  · exact absurd b.symm a
  · exact absurd c.symm b
  · exact absurd q.symm c
  · subst a;subst b;subst c;subst q
    exact .ok (h1.mono hm) rfl (h2.mono hm) rfl (h3.mono hm) rfl
theorem fq.nil {l back:List Nd} {az e:Int} {p:l8} (h:fq l back az p e) (he:e≠0):p=jG:=by
  obtain ⟨d1,e1,h1,⟨a,b,h9⟩|⟨a,d2,e2,h2,⟨b,c,h9⟩|⟨b,d3,e3,h3,⟨c,q,h9⟩|⟨c,q,h9⟩⟩⟩⟩:=h
  · exact h9
  · exact h9
  · exact h9
  · exact absurd q he
theorem fq.tree {l back:List Nd} {az:Int} {p:l8} (h:fq l back az p 0):p.tree=l:=by
  obtain ⟨d1,e1,h1,⟨a,b,h9⟩|⟨a,d2,e2,h2,⟨b,c,h9⟩|⟨b,d3,e3,h3,⟨c,q,h9⟩|⟨c,q,h9⟩⟩⟩⟩:=h
  · exact absurd b.symm a
  · exact absurd c.symm b
  · exact absurd q.symm c
  · rw [h9]
def Of (l:List Nd) (az:Int) (p:l8) (er:Int):Prop:=(dO l=false∧p=jG∧er=3)∨∃T:Tr,T.wk∧T.flat=l∧fM T∧fq l (bN T).flat az p er
theorem Of.Wf {l:List Nd} {T:Tr} {az er:Int} {p:l8} (h:Of l az p er) (hw:T.wk) (ho:fM T) (hf:T.flat=l) (hl:l.length≤512):fq l (bN T).flat az p er:=by
  rcases h with ⟨h1,_⟩|⟨T',h1,h2,h3,h4⟩
  · have:=p6 hw ho (by rw [hf];exact hl);rw [hf,h1] at this;cases this
  · obtain rfl:=wm hw h1 (hf.trans h2.symm);exact h4
def nK (s:ByteArray) (az:Int) (p:l8) (at_ er:Int):Prop:=
  ∃l a1 e1,l9 s l a1 e1∧((e1≠0∧p=jG∧at_=a1∧er=e1)∨(e1=0∧(((az<1∨az>1024)∧p=jG∧at_=0∧er=1)∨(1≤az∧az≤1024∧
    ((dO (jR l)=false∧p=jG∧at_=0∧er=4)∨(dO (jR l)=true∧at_=0∧Of l az p er))))))
theorem Bw {T:Tr} (h:T.flat.length≤509):(bN T).flat.length≤509:=by rw [j9];exact h
theorem nK.uniq {s:ByteArray} {az:Int} {p p':l8} {a a' e e':Int} (h:nK s az p a e) (h':nK s az p' a' e'):p=p'∧a=a'∧e=e':=by
  obtain ⟨l,a1,e1,h1,h2⟩:=h
  obtain ⟨l',a1',e1',uI,uH⟩:=h'
  obtain ⟨rfl,rfl,rfl⟩:=h1.uniq uI
  rcases h2 with ⟨b,rfl,rfl,rfl⟩|⟨b,h3⟩<;>rcases uH with ⟨c,rfl,rfl,rfl⟩|⟨c,P7⟩
  · exact ⟨rfl,rfl,rfl⟩
  · exact absurd c b
  · exact absurd b c
  subst b
  obtain ⟨⟨T,hw,ho,hf⟩,hl,_⟩:=h1.tree
  rcases h3 with ⟨b,rfl,rfl,rfl⟩|⟨b,b2,h4⟩<;>rcases P7 with ⟨c,rfl,rfl,rfl⟩|⟨c,c2,OF⟩
  · exact ⟨rfl,rfl,rfl⟩
  · omega
  · omega
  rcases h4 with ⟨q,rfl,rfl,rfl⟩|⟨q,rfl,h5⟩<;>rcases OF with ⟨r,rfl,rfl,rfl⟩|⟨r,rfl,h5'⟩
  · exact ⟨rfl,rfl,rfl⟩
  · rw [q] at r;cases r
  · rw [q] at r;cases r
  have h9:=sZ hw ho
  rw [hf] at h9;rw [q] at h9
  have h9:=of_decide_eq_true h9.symm
  obtain ⟨rfl,rfl⟩:=(h5.Wf hw ho hf hl).uniq (h5'.Wf hw ho hf hl) h9 (Bw (by rw [hf];exact h9))
  exact ⟨rfl,rfl,rfl⟩
theorem nK.nil {s:ByteArray} {az a e:Int} {p:l8} (h:nK s az p a e) (he:e≠0):p=jG:=by
  obtain ⟨l,a1,e1,h1,⟨b,h9,_⟩|⟨b,⟨_,h9,_⟩|⟨b1,b2,⟨_,h9,_⟩|⟨c,_,⟨_,h9,_⟩|⟨T,_,_,_,h3⟩⟩⟩⟩⟩:=h
  · exact h9
  · exact h9
  · exact h9
  · exact h9
  · exact h3.nil he
theorem nK.some {s:ByteArray} {az a:Int} {p:l8} (h:nK s az p a 0):a=0∧1≤az∧az≤1024∧l9 s p.tree 0 0∧∃T:Tr,T.wk∧fM T∧T.flat=p.tree∧p.tree.length≤509∧fq p.tree (bN T).flat az p 0:=by
  obtain ⟨l,a1,e1,h1,⟨b,_,_,h9⟩|⟨b,⟨_,_,_,h9⟩|⟨b1,b2,⟨_,_,_,h9⟩|⟨c,c2,h3⟩⟩⟩⟩:=h
  · exact absurd h9.symm b
  · omega
  · omega
  · subst b
    obtain ⟨⟨T,hw,ho,hf⟩,hl,rfl⟩:=h1.tree
    have h4:=h3.Wf hw ho hf hl
    have ht:=h4.tree
    have h9:=sZ hw ho
    rw [hf] at h9;rw [c] at h9
    have h9:=of_decide_eq_true h9.symm
    rw [ht]
    exact ⟨c2,b1,b2,h1,T,hw,ho,hf,by omega,h4⟩
def ZK (t:List Nd) (f s b:au) (r:Bool):Prop:=∃q er,Of t 1024 q er∧r=(decide (er=0)&&(vg q.fw f&&(vg q.se s&&vg q.bk b)))
def bK (F:Nat→Nat→Prop):Nat→Nat→Nat→Prop
  | 0,i,j=>i=j
  | k+1,i,j=>∃m,bK F k i m∧F m j
theorem bK.front {F:Nat→Nat→Prop} :∀ {k i j:Nat},bK F (k+1) i j↔∃m,F i m∧bK F k m j
  | 0,i,j=>by
    simp only [bK]
    exact ⟨fun ⟨m,e,h⟩=>⟨j,e▸h,rfl⟩,fun ⟨m,h,e⟩=>⟨i,rfl,e▸h⟩⟩
  | k+1,i,j=>by
    constructor
    · rintro ⟨m,h1,h2⟩
      obtain ⟨m',h3,h4⟩:=bK.front.1 h1
      exact ⟨m',h3,m,h4,h2⟩
    · rintro ⟨m,h1,m',h2,h3⟩
      exact ⟨m',bK.front.2 ⟨m,h1,h2⟩,h3⟩
theorem bK.add {F:Nat→Nat→Prop} {k:Nat} :∀ {c i j:Nat},bK F (k+c) i j↔∃m,bK F k i m∧bK F c m j
  | 0,i,j=>by
    simp only [Nat.add_zero,bK]
    exact ⟨fun h=>⟨j,h,rfl⟩,fun ⟨m,h,e⟩=>e▸h⟩
  | c+1,i,j=>by
    constructor
    · rintro ⟨m,h1,h2⟩
      obtain ⟨m',h3,h4⟩:=bK.add.1 h1
      exact ⟨m',h3,m,h4,h2⟩
    · rintro ⟨m,h1,m',h2,h3⟩
      exact ⟨m',bK.add.2 ⟨m,h1,h2⟩,h3⟩
def bf (t:List Nat):Tr→Nat→Nat→Prop
  | .leaf n,i,j=>if n.kind=1 then i<t.length∧j=i+1∧n.set.has (t.getD i 0)=true else if n.kind=2 then i=j else if n.kind=3 then i=0∧j=0 else i=t.length∧j=t.length
  | .rep n a,i,j=>∃k:Nat,n.lo≤(k:Int)∧(n.hi= -1∨(k:Int)≤n.hi)∧bK (bf t a) k i j
  | .bin n a b,i,j=>if n.kind=5 then∃m,bf t a i m∧bf t b m j else bf t a i j∨bf t b i j
def Ed (st:List aR) (t:List Nat) (q i q' j:Nat):Prop:=
  ((st.getD q ay).kind=1∧i<t.length∧(st.getD q ay).set.has (t.getD i 0)=true∧q'=(st.getD q ay).a.toNat∧j=i+1)∨
  ((st.getD q ay).kind=2∧q'=(st.getD q ay).a.toNat∧j=i)∨
  ((st.getD q ay).kind=3∧(q'=(st.getD q ay).a.toNat∨q'=(st.getD q ay).b.toNat)∧j=i)∨
  ((st.getD q ay).kind=4∧i=0∧q'=(st.getD q ay).a.toNat∧j=i)∨
  ((st.getD q ay).kind=5∧i=t.length∧q'=(st.getD q ay).a.toNat∧j=i)
def Ln (st:List aR) (t:List Nat) (f J:Nat):Nat→Nat→Nat→Prop
  | 0,q,i=>q=f∧i=J
  | n+1,q,i=>∃q' i',Ed st t q i q' i'∧Ln st t f J n q' i'
inductive Rc (st:List aR) (t:List Nat):Nat→Nat→Nat→Nat→Prop
  | refl (q i:Nat):Rc st t q i q i
  | step {q i q' i' Ou j:Nat} :Ed st t q i q' i'→Rc st t q' i' Ou j→Rc st t q i Ou j
theorem Rc.trans {st:List aR} {t:List Nat} {q i q' j Ou k:Nat} (h:Rc st t q i q' j) (h':Rc st t q' j Ou k):Rc st t q i Ou k:=by
  induction h with
  | refl=>exact h'
  | step e _ ih=>exact .step e (ih h')
theorem Rc.ln {st:List aR} {t:List Nat} {q i f J:Nat} (h:Rc st t q i f J):∃n,Ln st t f J n q i:=by
  induction h with
  | refl=>exact ⟨0,rfl,rfl⟩
  | step e _ ih=>obtain ⟨n,h⟩:=ih;exact ⟨n+1,_,_,e,h⟩
def Ir (st:List aR) (q p:Nat):Prop:=(st.getD q ay).kind=2∧(st.getD q ay).a=(p:Int)
def OH (st:List aR) (q p e:Nat):Prop:=(st.getD q ay).kind=3∧(st.getD q ay).a=(p:Int)∧(st.getD q ay).b=(e:Int)
theorem Ir.rc {st:List aR} {t:List Nat} {q p:Nat} (h:Ir st q p) (i:Nat):Rc st t q i p i:= .step (.inr (.inl ⟨h.1,by rw [h.2];rfl,rfl⟩)) (.refl _ _)
theorem OH.rc1 {st:List aR} {t:List Nat} {q p e:Nat} (h:OH st q p e) (i:Nat):Rc st t q i p i:= .step (.inr (.inr (.inl ⟨h.1,.inl (by rw [h.2.1];rfl),rfl⟩))) (.refl _ _)
theorem OH.rc2 {st:List aR} {t:List Nat} {q p e:Nat} (h:OH st q p e) (i:Nat):Rc st t q i e i:= .step (.inr (.inr (.inl ⟨h.1,.inr (by rw [h.2.2];rfl),rfl⟩))) (.refl _ _)
theorem Ln.pos {st:List aR} {t:List Nat} {f J n q i k:Nat} (hf:(st.getD f ay).kind=6) (hq:(st.getD q ay).kind≠6) (h:Ln st t f J n q i):∃n',n=n'+1∧∃q' i',Ed st t q i q' i'∧Ln st t f J n' q' i':=by
  cases n with
  | zero=>exact absurd (h.1▸hf) hq
  | succ n=>exact ⟨n,rfl,h⟩
theorem Ir.ln {st:List aR} {t:List Nat} {f J n q p i:Nat} (hf:(st.getD f ay).kind=6) (h:Ir st q p) (hl:Ln st t f J n q i):∃n',n=n'+1∧Ln st t f J n' p i:=by
  obtain ⟨n',e,q',i',hE,Fz⟩:=hl.pos (k:=0) hf (by rw [h.1];decide)
  refine ⟨n',e,?_⟩
  have h1:=h.1
  rcases hE with hE|hE|hE|hE|hE
  · omega
  · rw [h.2] at hE;obtain ⟨_,e1,e2⟩:=hE;subst e1;subst e2;exact Fz
  · omega
  · omega
  · omega
theorem OH.ln {st:List aR} {t:List Nat} {f J n q p e i:Nat} (hf:(st.getD f ay).kind=6) (h:OH st q p e) (hl:Ln st t f J n q i):∃n',n=n'+1∧(Ln st t f J n' p i∨Ln st t f J n' e i):=by
  obtain ⟨n',e',q',i',hE,Fz⟩:=hl.pos (k:=0) hf (by rw [h.1];decide)
  refine ⟨n',e',?_⟩
  have h1:=h.1
  rcases hE with hE|hE|hE|hE|hE
  · omega
  · omega
  · rw [h.2.1,h.2.2] at hE;obtain ⟨_,e1,e2⟩:=hE;subst e2
    rcases e1 with e1|e1<;>subst e1
    · exact .inl Fz
    · exact .inr Fz
  · omega
  · omega
structure oJ (st:List aR) (t:List Nat) (F:Nat→Nat→Prop) (p q:Nat):Prop where
  fw:∀f J,(st.getD f ay).kind=6→∀n i,Ln st t f J n p i→∃m n',n'≤n∧F i m∧Ln st t f J n' q m
  bw:∀i j,F i j→Rc st t p i q j
section
variable {st:List aR} {t:List Nat}
theorem oJ.cat {A B:Nat→Nat→Prop} {p q r s:Nat} (h1:oJ st t A p q) (he:Ir st q r) (h2:oJ st t B r s):oJ st t (fun i j=>∃m,A i m∧B m j) p s:=by
  refine ⟨fun f J hf n i hl=>?_,fun i j ⟨m,a,b⟩=>(h1.bw i m a).trans ((he.rc m).trans (h2.bw m j b))⟩
  obtain ⟨m,n1,l1,a1,tC⟩:=h1.fw f J hf n i hl
  obtain ⟨n2,e2,Hu⟩:=he.ln hf tC
  obtain ⟨m3,n3,l3,a3,Ht⟩:=h2.fw f J hf n2 m Hu
  exact ⟨m3,n3,by omega,⟨m,a1,a3⟩,Ht⟩
theorem oJ.trans {A B:Nat→Nat→Prop} {p q s:Nat} (h1:oJ st t A p q) (h2:oJ st t B q s):oJ st t (fun i j=>∃m,A i m∧B m j) p s:=by
  refine ⟨fun f J hf n i hl=>?_,fun i j ⟨m,a,b⟩=>(h1.bw i m a).trans (h2.bw m j b)⟩
  obtain ⟨m,n1,l1,a1,tC⟩:=h1.fw f J hf n i hl
  obtain ⟨m3,n3,l3,a3,Ht⟩:=h2.fw f J hf n1 m tC
  exact ⟨m3,n3,by omega,⟨m,a1,a3⟩,Ht⟩
theorem oJ.id (q:Nat):oJ st t (fun i j=>i=j) q q:=⟨fun f J hf n i hl=>⟨i,n,Nat.le_refl _,rfl,hl⟩,fun i j e=>e▸ .refl _ _⟩
theorem oJ.eps {q p:Nat} (h:Ir st q p):oJ st t (fun i j=>i=j) q p:=⟨fun f J hf n i hl=>by
  obtain ⟨n',e,Fz⟩:=h.ln hf hl
  exact ⟨i,n',by omega,rfl,Fz⟩,fun i j e=>e▸h.rc i⟩
theorem oJ.congr {A B:Nat→Nat→Prop} {p q:Nat} (h:oJ st t A p q) (FD:∀i j,A i j↔B i j):oJ st t B p q:=
  ⟨fun f J hf n i hl=>by
    obtain ⟨m,n',l,a,Fz⟩:=h.fw f J hf n i hl
    exact ⟨m,n',l,(FD i m).1 a,Fz⟩,fun i j b=>h.bw i j ((FD i j).2 b)⟩
theorem oJ.alt {A B:Nat→Nat→Prop} {q p e p' e' s:Nat} (hs:OH st q p e) (h1:oJ st t A p p') (g1:Ir st p' s) (h2:oJ st t B e e') (g2:Ir st e' s):oJ st t (fun i j=>A i j∨B i j) q s:=by
  refine ⟨fun f J hf n i hl=>?_,fun i j h=>?_⟩
  · obtain ⟨n1,e1,tC⟩:=hs.ln hf hl
    rcases tC with tC|tC
    · obtain ⟨m,n2,l2,a2,Hu⟩:=h1.fw f J hf n1 i tC
      obtain ⟨n3,e3,Ht⟩:=g1.ln hf Hu
      exact ⟨m,n3,by omega,.inl a2,Ht⟩
    · obtain ⟨m,n2,l2,a2,Hu⟩:=h2.fw f J hf n1 i tC
      obtain ⟨n3,e3,Ht⟩:=g2.ln hf Hu
      exact ⟨m,n3,by omega,.inr a2,Ht⟩
  · rcases h with h|h
    · exact (hs.rc1 i).trans ((h1.bw i j h).trans (g1.rc j))
    · exact (hs.rc2 i).trans ((h2.bw i j h).trans (g2.rc j))
theorem oJ.opt {A B:Nat→Nat→Prop} {x q p p' s:Nat} (hx:Ir st x q) (hs:OH st q p s) (h1:oJ st t A p p') (h2:oJ st t B p' s):oJ st t (fun i j=>i=j∨∃m,A i m∧B m j) x s:=by
  refine ⟨fun f J hf n i hl=>?_,fun i j h=>?_⟩
  · obtain ⟨n0,e0,PT⟩:=hx.ln hf hl
    obtain ⟨n1,e1,tC⟩:=hs.ln hf PT
    rcases tC with tC|tC
    · obtain ⟨m,n2,l2,a2,Hu⟩:=h1.fw f J hf n1 i tC
      obtain ⟨m3,n3,l3,a3,Ht⟩:=h2.fw f J hf n2 m Hu
      exact ⟨m3,n3,by omega,.inr ⟨m,a2,a3⟩,Ht⟩
    · exact ⟨i,n1,by omega,.inl rfl,tC⟩
  · refine (hx.rc i).trans ?_
    rcases h with h|⟨m,a,b⟩
    · subst h;exact hs.rc2 i
    · exact (hs.rc1 i).trans ((h1.bw i m a).trans (h2.bw m j b))
theorem oJ.star {A:Nat→Nat→Prop} {x q p p' s:Nat} (hx:Ir st x q) (hs:OH st q p s) (h1:oJ st t A p p') (hp:Ir st p' q):oJ st t (fun i j=>∃c,bK A c i j) x s:=by
  have fwq:∀f J,(st.getD f ay).kind=6→∀n i,Ln st t f J n q i→∃m n',n'≤n∧(∃c,bK A c i m)∧Ln st t f J n' s m:=by
    intro f J hf n
    induction n using Nat.strongRecOn with
    | ind n ih=>
      intro i hl
      obtain ⟨n1,e1,tC⟩:=hs.ln hf hl
      rcases tC with tC|tC
      · obtain ⟨m,n2,l2,a2,Hu⟩:=h1.fw f J hf n1 i tC
        obtain ⟨n3,e3,Ht⟩:=hp.ln hf Hu
        obtain ⟨m4,n4,l4,⟨c,a4⟩,hl4⟩:=ih n3 oz m Ht
        exact ⟨m4,n4,by omega,⟨c+1,bK.front.2 ⟨m,a2,a4⟩⟩,hl4⟩
      · exact ⟨i,n1,by omega,⟨0,rfl⟩,tC⟩
  have bwq:∀c i j,bK A c i j→Rc st t q i s j:=by
    intro c
    induction c with
    | zero=>intro i j h;obtain rfl:i=j:=h;exact hs.rc2 i
    | succ c ih=>
      intro i j h
      obtain ⟨m,a,b⟩:=bK.front.1 h
      exact (hs.rc1 i).trans ((h1.bw i m a).trans ((hp.rc m).trans (ih m j b)))
  refine ⟨fun f J hf n i hl=>?_,fun i j ⟨c,h⟩=>(hx.rc i).trans (bwq c i j h)⟩
  obtain ⟨n0,e0,PT⟩:=hx.ln hf hl
  obtain ⟨m,n1,l1,a1,tC⟩:=fwq f J hf n0 i PT
  exact ⟨m,n1,by omega,a1,tC⟩
end
def Q5 (st u:List aR) (lo hi last:Nat):Prop:=∀j,lo≤j→j<hi→j≠last→st.getD j ay=u.getD j ay
structure Mf (t:List Nat) (f:List aR→Pt) (z:Nat) (F:Nat→Nat→Prop):Prop where
  Fa:Mk f z
  last:∀s,((f s).s.getD (f s).last ay).kind=2
  Uc:∀s st,Q5 st (f s).s s.length (s.length+z) (f s).last→oJ st t F (f s).first (f s).last
section
variable {t:List Nat} {f:List aR→Pt} {z:Nat} {F:Nat→Nat→Prop}
theorem Ab (hf:Mf t f z F) {x:List aR×Nat} (hk:(x.1.getD x.2 ay).kind=2):∀k,((eW f k x).1.getD (eW f k x).2 ay).kind=2
  | 0=>hk
  | k+1=>by simp only [eW];rw [ez];exact hf.last _
theorem Fc (hf:Mf t f z F) {x:List aR×Nat} {b:Nat} {st:List aR} (hb:b≤x.2) (hx:x.2<x.1.length) (hk:(x.1.getD x.2 ay).kind=2):
    ∀k,Q5 st (eW f k x).1 b (eW f k x).1.length (eW f k x).2→oJ st t (bK F k) x.2 (eW f k x).2
  | 0,_=>oJ.id _
  | k+1,ha=>by
    have h0:=mG hf.Fa hb hx k
    have hy:=hf.Fa (eW f k x).1
    have JM:=Ab hf hk k
    simp only [eW] at ha ⊢
    rw [cK] at ha
    have a1:Q5 st (eW f k x).1 b (eW f k x).1.length (eW f k x).2:=fun j h1 h2 h3=>by
      rw [ha j h1 oz oz,bo,if_neg (fun h9=>h3 h9.1)];exact hy.2.2.2.2.2 j h2
    have e1:st.getD (eW f k x).2 ay= { (eW f k x).1.getD (eW f k x).2 ay with a:=((f (eW f k x).1).first:Nat) } :=by
      rw [ha _ oz oz oz,bo,if_pos ⟨rfl,by omega⟩,hy.2.2.2.2.2 _ h0.2.1]
    have a2:Q5 st (f (eW f k x).1).s (eW f k x).1.length ((eW f k x).1.length+z) (f (eW f k x).1).last:=fun j h1 h2 h3=>by
      rw [ha j oz oz h3,bo,if_neg oz]
    exact (Fc hf hb hx hk k a1).cat (r:=(f (eW f k x).1).first) ⟨by rw [e1];exact JM,by rw [e1]⟩ (hf.Uc _ _ a2)
theorem uF (hf:Mf t f z F) {x:List aR×Nat} (hx:x.2<x.1.length) (hk:(x.1.getD x.2 ay).kind=2):∀k,((cY f k x).1.getD (cY f k x).2.1 ay).kind=2∧∀i,i∈(cY f k x).2.2→((cY f k x).1.getD i ay).kind=3∧i<(cY f k x).1.length
  | 0=>⟨hk,fun i hi=>by simp [cY] at hi⟩
  | k+1=>by
    have ih:=uF hf hx hk k
    have hy:=hf.Fa (cY f k x).1
    simp only [cY]
    refine ⟨?_,fun i hi=>?_⟩
    · rw [ez,bM oz];exact hf.last _
    · rw [ez,cK]
      rcases List.mem_append.1 hi with h1|h1
      · obtain ⟨h2,h3⟩:=ih.2 i h1
        rw [bM oz,hy.2.2.2.2.2 i oz,List.length_append]
        exact ⟨h2,by omega⟩
      · rw [List.mem_singleton] at h1;subst h1
        refine ⟨?_,by simp⟩
        rw [List.getD_eq_getElem?_getD,List.getElem?_append_right (Nat.le_refl _)];simp
def V1 (st u:List aR) (b last:Nat) (S:List Nat) (e:Nat):Prop:=∀j,b≤j→j<u.length→j≠last→(j∉S→st.getD j ay=u.getD j ay)∧(j∈S→(st.getD j ay).kind=(u.getD j ay).kind∧(st.getD j ay).a=(u.getD j ay).a∧(st.getD j ay).b=(e:Int))
def HiS (st:List aR) (t:List Nat) (f:List aR→Pt) (F:Nat→Nat→Prop) (x:List aR×Nat) (e k:Nat):Prop:=
  Ir st (cY f k x).2.1 (f (cY f k x).1).s.length∧OH st (f (cY f k x).1).s.length (f (cY f k x).1).first e∧oJ st t F (f (cY f k x).1).first (cY f (k+1) x).2.1
theorem MO (hf:Mf t f z F) {x:List aR×Nat} {b e:Nat} {st:List aR} (hb:b≤x.2) (hx:x.2<x.1.length) (hk:(x.1.getD x.2 ay).kind=2) (k:Nat)
    (ha:V1 st (cY f (k+1) x).1 b (cY f (k+1) x).2.1 (cY f (k+1) x).2.2 e):V1 st (cY f k x).1 b (cY f k x).2.1 (cY f k x).2.2 e∧HiS st t f F x e k:=by
  have h0:=mM hf.Fa hb hx k
  have hy:=hf.Fa (cY f k x).1
  have JM:=uF hf hx hk k
  unfold HiS
  simp only [cY] at ha ⊢
  have hlen:(dy ((f (cY f k x).1).s++[⟨3,((f (cY f k x).1).first:Nat),0,Bs.zero⟩]) (cY f k x).2.1 ((f (cY f k x).1).s.length:Nat)).length=(f (cY f k x).1).s.length+1:=by rw [cK];simp
  have yB:∀j,j<(cY f k x).1.length→j≠(cY f k x).2.1→(dy ((f (cY f k x).1).s++[⟨3,((f (cY f k x).1).first:Nat),0,Bs.zero⟩]) (cY f k x).2.1 ((f (cY f k x).1).s.length:Nat)).getD j ay=(cY f k x).1.getD j ay:=fun j h1 h2=>by
    rw [bo,if_neg (fun h9=>h2 h9.1),bM oz];exact hy.2.2.2.2.2 j h1
  have hX:(cY f k x).2.1∉(cY f k x).2.2:=fun h9=>by have:=(JM.2 _ h9).1;rw [JM.1] at this;cases this
  have e1:st.getD (cY f k x).2.1 ay= { (cY f k x).1.getD (cY f k x).2.1 ay with a:=((f (cY f k x).1).s.length:Nat) } :=by
    rw [(ha _ h0.1 (by rw [hlen];omega) oz).1 (fun h9=>by
      rcases List.mem_append.1 h9 with h1|h1
      · exact hX h1
      · rw [List.mem_singleton] at h1;omega),bo,if_pos ⟨rfl,by rw [List.length_append];omega⟩,bM oz,hy.2.2.2.2.2 _ h0.2.1]
  have e2:=(ha (f (cY f k x).1).s.length oz (by rw [hlen];omega) oz).2 (by simp)
  have e3:(dy ((f (cY f k x).1).s++[⟨3,((f (cY f k x).1).first:Nat),0,Bs.zero⟩]) (cY f k x).2.1 ((f (cY f k x).1).s.length:Nat)).getD (f (cY f k x).1).s.length ay=⟨3,((f (cY f k x).1).first:Nat),0,Bs.zero⟩:=by
    rw [bo,if_neg oz,List.getD_eq_getElem?_getD,List.getElem?_append_right (Nat.le_refl _)];simp
  rw [e3] at e2
  have a2:Q5 st (f (cY f k x).1).s (cY f k x).1.length ((cY f k x).1.length+z) (f (cY f k x).1).last:=fun j h1 h2 h3=>by
    rw [(ha j oz (by rw [hlen];omega) h3).1 (fun h9=>by
      rcases List.mem_append.1 h9 with h8|h8
      · have:=(JM.2 _ h8).2;omega
      · rw [List.mem_singleton] at h8;omega),bo,if_neg oz,bM oz]
  refine ⟨fun j h1 h2 h3=>⟨fun h4=>?_,fun h4=>?_⟩,⟨by rw [e1];exact JM.1,by rw [e1]⟩,⟨e2.1,e2.2.1,e2.2.2⟩,hf.Uc _ _ a2⟩
  · rw [(ha j h1 (by rw [hlen];omega) oz).1 (fun h9=>by
      rcases List.mem_append.1 h9 with h8|h8
      · exact h4 h8
      · rw [List.mem_singleton] at h8;omega)]
    exact yB j h2 h3
  · have:=(ha j h1 (by rw [hlen];omega) oz).2 (List.mem_append_left _ h4)
    rw [yB j h2 h3] at this;exact this
theorem FA (hf:Mf t f z F) {x:List aR×Nat} {b e:Nat} {st:List aR} (hb:b≤x.2) (hx:x.2<x.1.length) (hk:(x.1.getD x.2 ay).kind=2):∀D,
    V1 st (cY f D x).1 b (cY f D x).2.1 (cY f D x).2.2 e→V1 st x.1 b x.2 [] e∧∀k,k<D→HiS st t f F x e k
  | 0,ha=>⟨ha,fun k hk=>by omega⟩
  | D+1,ha=>by
    obtain ⟨h1,h2⟩:=MO hf hb hx hk D ha
    obtain ⟨h3,h4⟩:=FA hf hb hx hk D h1
    exact ⟨h3,fun k hk9=>by
      rcases Nat.lt_or_ge k D with h|h
      · exact h4 k h
      · obtain rfl:k=D:=by omega
        exact h2⟩
theorem MP {x:List aR×Nat} {e D:Nat} {st:List aR} (h:∀k,k<D→HiS st t f F x e k) (hE:Ir st (cY f D x).2.1 e):∀c k,k+c=D→oJ st t (fun i j=>∃m:Nat,m≤c∧bK F m i j) (cY f k x).2.1 e
  | 0,k,hk=>by
    obtain rfl:k=D:=by omega
    refine (oJ.eps hE).congr fun i j=>⟨fun h9=>⟨0,Nat.le_refl _,h9⟩,fun ⟨m,h1,h2⟩=>?_⟩
    obtain rfl:m=0:=by omega
    exact h2
  | c+1,k,hk=>by
    obtain ⟨h1,h2,h3⟩:=h k oz
    have ih:=MP h hE c (k+1) oz
    refine (oJ.opt h1 h2 h3 ih).congr fun i j=>⟨fun h9=>?_,fun ⟨m,h4,h5⟩=>?_⟩
    · rcases h9 with h9|⟨m,a,n,hn,b⟩
      · exact ⟨0,by omega,h9⟩
      · exact ⟨n+1,by omega,bK.front.2 ⟨m,a,b⟩⟩
    · cases m with
      | zero=>exact .inl h5
      | succ m=>
        obtain ⟨u,a,b⟩:=bK.front.1 h5
        exact .inr ⟨u,a,m,by omega,b⟩
theorem vf {v:Int} :∀(l:List Nat) (s:List aR) (j:Nat),j∈l→j<s.length→(fK s l v).getD j ay= { s.getD j ay with b:=v }
  | i::l,s,j,h,hj=>by
    simp only [fK,List.foldl_cons]
    show (fK (qP s i v) l v).getD j ay=_
    by_cases hl:j∈l
    · rw [vf l _ j hl (by rw [BK];exact hj),qO]
      split
      · rename_i h9;rw [h9.1]
      · rfl
    · rw [fg _ _ _ _ hl,qO]
      rcases List.mem_cons.1 h with h1|h1
      · subst h1;rw [if_pos ⟨rfl,hj⟩]
      · exact absurd h1 hl
theorem O9 (hf:Mf t f z F) (n:Nd) (hn:0≤n.lo∧n.lo≤32∧(n.hi= -1∨n.lo≤n.hi∧n.hi≤32)):
    Mf t (jE f n) (2+n.lo.toNat*z+(if n.hi<0 then z+1 else (n.hi-n.lo).toNat*(z+1))) (fun i j=>∃k:Nat,n.lo≤(k:Int)∧(n.hi= -1∨(k:Int)≤n.hi)∧bK F k i j):=by
  refine ⟨GS hf.Fa n,fun s=>?_,fun s st ha=>?_⟩
  · have b0:=uF hf (x:=eW f n.lo.toNat (s++[emp],s.length)) (mG hf.Fa (x:=(s++[emp],s.length)) (n:=s.length) (Nat.le_refl _) (by simp) n.lo.toNat).2.1 (Ab hf (x:=(s++[emp],s.length)) (by simp [List.getD_eq_getElem?_getD,emp]) n.lo.toNat)
    unfold jE
    by_cases hh:n.hi<0
    · rw [if_pos hh]
      simp only
      rw [fg _ _ _ _ (fun h9=>by have:=((b0 1).2 _ h9).2;omega),ez,List.getD_eq_getElem?_getD,List.getElem?_append_right (Nat.le_refl _)];simp [emp]
    · rw [if_neg hh]
      simp only
      rw [fg _ _ _ _ (fun h9=>by have:=((b0 _).2 _ h9).2;omega),ez,List.getD_eq_getElem?_getD,List.getElem?_append_right (Nat.le_refl _)];simp [emp]
  · have k0:(((s++[emp]:List aR),s.length).1.getD ((s++[emp]:List aR),s.length).2 ay).kind=2:=by simp [List.getD_eq_getElem?_getD,emp]
    have o1:=mG hf.Fa (x:=(s++[emp],s.length)) (n:=s.length) (Nat.le_refl _) (by simp) n.lo.toNat
    have k1:=Ab hf k0 n.lo.toNat
    have b0:=uF hf o1.2.1 k1
    have b1:=mM hf.Fa (x:=eW f n.lo.toNat (s++[emp],s.length)) (n:=s.length) o1.1 o1.2.1
    have l0:=o4 hf.Fa (s++[emp],s.length) n.lo.toNat
    have l1:=kV hf.Fa (eW f n.lo.toNat (s++[emp],s.length))
    simp only [List.length_append,List.length_singleton] at l0
    unfold jE at ha ⊢
    by_cases hh:n.hi<0
    · rw [if_pos hh] at ha ⊢
      rw [if_pos hh] at ha
      simp only at ha ⊢
      have hlr:=l1 1
      have JR:=b1 1
      have HA:=b0 1
      have hX:(cY f 1 (eW f n.lo.toNat (s++[emp],s.length))).2.1∉(cY f 1 (eW f n.lo.toNat (s++[emp],s.length))).2.2:=fun h9=>by have:=(HA.2 _ h9).1;rw [HA.1] at this;cases this
      have gx:V1 st (cY f 1 (eW f n.lo.toNat (s++[emp],s.length))).1 s.length (cY f 1 (eW f n.lo.toNat (s++[emp],s.length))).2.1 (cY f 1 (eW f n.lo.toNat (s++[emp],s.length))).2.2 (cY f 1 (eW f n.lo.toNat (s++[emp],s.length))).1.length:=fun j h1 h2 h3=>⟨fun h4=>by
          rw [ha j h1 oz oz,fg _ _ _ _ h4,bo,if_neg (fun h9=>h3 h9.1),bM h2],fun h4=>by
          rw [ha j h1 oz oz,vf _ _ _ h4 (by rw [cK,List.length_append];omega),bo,if_neg (fun h9=>h3 h9.1),bM h2]
          exact ⟨rfl,rfl,rfl⟩⟩
      obtain ⟨g1,g2⟩:=FA hf o1.1 o1.2.1 k1 1 gx
      have eL:st.getD (cY f 1 (eW f n.lo.toNat (s++[emp],s.length))).2.1 ay= { (cY f 1 (eW f n.lo.toNat (s++[emp],s.length))).1.getD (cY f 1 (eW f n.lo.toNat (s++[emp],s.length))).2.1 ay with a:=((cY f 1 (eW f n.lo.toNat (s++[emp],s.length))).2.2.getD 0 0:Nat) } :=by
        rw [ha _ JR.1 oz oz,fg _ _ _ _ hX,bo,if_pos ⟨rfl,by rw [List.length_append];omega⟩,bM JR.2.1]
      have hP:Ir st (cY f 1 (eW f n.lo.toNat (s++[emp],s.length))).2.1 (f (eW f n.lo.toNat (s++[emp],s.length)).1).s.length:=⟨by rw [eL];exact HA.1,by rw [eL];simp [cY]⟩
      obtain ⟨q1,q2,q3⟩:=g2 0 oz
      have Ao:=Fc hf (b:=s.length) (Nat.le_refl _) (by simp) k0 n.lo.toNat (st:=st) (fun j h1 h2 h3=>(g1 j h1 h2 h3).1 (by simp))
      refine (Ao.trans (oJ.star q1 q2 q3 hP)).congr fun i j=>⟨fun ⟨m,h1,c,h2⟩=>⟨n.lo.toNat+c,by omega,.inl oz,bK.add.2 ⟨m,h1,h2⟩⟩,fun ⟨k,h1,_,h2⟩=>?_⟩
      rw [show k=n.lo.toNat+(k-n.lo.toNat) by omega] at h2
      obtain ⟨m,h3,h4⟩:=bK.add.1 h2
      exact ⟨m,h3,_,h4⟩
    · rw [if_neg hh] at ha ⊢
      rw [if_neg hh] at ha
      simp only at ha ⊢
      have hlr:=l1 (n.hi-n.lo).toNat
      have JR:=b1 (n.hi-n.lo).toNat
      have HA:=b0 (n.hi-n.lo).toNat
      have hX:(cY f (n.hi-n.lo).toNat (eW f n.lo.toNat (s++[emp],s.length))).2.1∉(cY f (n.hi-n.lo).toNat (eW f n.lo.toNat (s++[emp],s.length))).2.2:=fun h9=>by have:=(HA.2 _ h9).1;rw [HA.1] at this;cases this
      have gx:V1 st (cY f (n.hi-n.lo).toNat (eW f n.lo.toNat (s++[emp],s.length))).1 s.length (cY f (n.hi-n.lo).toNat (eW f n.lo.toNat (s++[emp],s.length))).2.1 (cY f (n.hi-n.lo).toNat (eW f n.lo.toNat (s++[emp],s.length))).2.2 (cY f (n.hi-n.lo).toNat (eW f n.lo.toNat (s++[emp],s.length))).1.length:=fun j h1 h2 h3=>⟨fun h4=>by
          rw [ha j h1 oz oz,fg _ _ _ _ h4,bo,if_neg (fun h9=>h3 h9.1),bM h2],fun h4=>by
          rw [ha j h1 oz oz,vf _ _ _ h4 (by rw [cK,List.length_append];omega),bo,if_neg (fun h9=>h3 h9.1),bM h2]
          exact ⟨rfl,rfl,rfl⟩⟩
      obtain ⟨g1,g2⟩:=FA hf o1.1 o1.2.1 k1 (n.hi-n.lo).toNat gx
      have eL:st.getD (cY f (n.hi-n.lo).toNat (eW f n.lo.toNat (s++[emp],s.length))).2.1 ay= { (cY f (n.hi-n.lo).toNat (eW f n.lo.toNat (s++[emp],s.length))).1.getD (cY f (n.hi-n.lo).toNat (eW f n.lo.toNat (s++[emp],s.length))).2.1 ay with a:=((cY f (n.hi-n.lo).toNat (eW f n.lo.toNat (s++[emp],s.length))).1.length:Nat) } :=by
        rw [ha _ JR.1 oz oz,fg _ _ _ _ hX,bo,if_pos ⟨rfl,by rw [List.length_append];omega⟩,bM JR.2.1]
      have Ao:=Fc hf (b:=s.length) (Nat.le_refl _) (by simp) k0 n.lo.toNat (st:=st) (fun j h1 h2 h3=>(g1 j h1 h2 h3).1 (by simp))
      have JP:=MP g2 ⟨by rw [eL];exact HA.1,by rw [eL]⟩ (n.hi-n.lo).toNat 0 oz
      refine (Ao.trans JP).congr fun i j=>⟨fun ⟨m,h1,c,hc,h2⟩=>⟨n.lo.toNat+c,by omega,.inr oz,bK.add.2 ⟨m,h1,h2⟩⟩,fun ⟨k,h1,tD,h2⟩=>?_⟩
      rw [show k=n.lo.toNat+(k-n.lo.toNat) by omega] at h2
      obtain ⟨m,h3,h4⟩:=bK.add.1 h2
      exact ⟨m,h3,_,by omega,h4⟩
end
theorem zY (t:List Nat):∀T:Tr,T.wk→fM T→Mf t (aW T) (bA T) (bf t T)
  | .leaf n,hw,ho=>by
    refine ⟨gb (.leaf n),fun s=>by simp [aW,List.getD_eq_getElem?_getD,emp],fun s st ha=>?_⟩
    simp only [aW,bA] at ha ⊢
    have e1:st.getD s.length ay=jL n (s.length+1):=by
      rw [ha s.length (Nat.le_refl _) oz oz];simp [List.getD_eq_getElem?_getD]
    simp only [Tr.wk] at hw
    have ek:(st.getD s.length ay).kind=if n.kind=3 then 4 else if n.kind=4 then 5 else n.kind:=by rw [e1];rfl
    have ea:(st.getD s.length ay).a=(s.length:Int)+1:=by rw [e1];rfl
    have es:(st.getD s.length ay).set=n.set:=by rw [e1];rfl
    have eat:(st.getD s.length ay).a.toNat=s.length+1:=by omega
    refine ⟨fun f J hf m i hl=>?_,fun i j h=>?_⟩
    · obtain ⟨m',e,q',i',hE,Fz⟩:=hl.pos (k:=0) hf (by rw [ek];split<;>(try split)<;>omega)
      refine ⟨i',m',by omega,?_,?_⟩
      · unfold bf
        unfold Ed at hE
        rw [ek,ea,es] at hE
        rcases hw with h|h|h|h<;>simp only [h] at hE ⊢ <;>simp at hE ⊢
        · exact ⟨hE.1,hE.2.2.2,hE.2.1⟩
        · omega
        · omega
        · omega
      · have:q'=s.length+1:=by
          unfold Ed at hE
          rw [ek,eat] at hE
          rcases hw with h|h|h|h<;>simp only [h] at hE<;>simp at hE<;>omega
        subst this;exact Fz
    · refine .step (q':=s.length+1) (i':=j) ?_ (.refl _ _)
      unfold bf at h
      unfold Ed
      rw [ek,eat,es]
      rcases hw with h9|h9|h9|h9<;>simp only [h9] at h ⊢ <;>simp at h ⊢
      · exact ⟨h.1,h.2.2,h.2.1⟩
      · omega
      · omega
      · omega
  | .rep n a,hw,ho=>O9 (zY t a hw.2 ho.rep) n (cW.rep (n:=n) ho.root hw.1)
  | .bin n a b,hw,ho=>by
    have ma:=zY t a hw.2.1 ho.kO
    have mb:=zY t b hw.2.2 ho.kN
    refine ⟨gb (.bin n a b),fun s=>?_,fun s st ha=>?_⟩
    · have h1:=ma.Fa s
      have h2:=mb.Fa (aW a s).s
      simp only [aW]
      split
      · simp only;rw [ez];exact mb.last _
      · simp only;rw [ez,ez,List.getD_eq_getElem?_getD,List.getElem?_append_right oz];simp [emp]
    · have h1:=ma.Fa s
      have h2:=mb.Fa (aW a s).s
      have RM:=ma.last s
      simp only [aW,bA] at ha ⊢
      by_cases hk:n.kind=5
      · rw [if_pos hk] at ha ⊢
        rw [if_pos hk] at ha
        simp only at ha ⊢
        have a1:Q5 st (aW a s).s s.length (s.length+bA a) (aW a s).last:=fun j g1 g2 g3=>by
          rw [ha j g1 oz oz,bo,if_neg (fun h9=>g3 h9.1)];exact h2.2.2.2.2.2 j oz
        have a2:Q5 st (aW b (aW a s).s).s (aW a s).s.length ((aW a s).s.length+bA b) (aW b (aW a s).s).last:=fun j g1 g2 g3=>by
          rw [ha j oz oz g3,bo,if_neg oz]
        have e1:st.getD (aW a s).last ay= { (aW a s).s.getD (aW a s).last ay with a:=((aW b (aW a s).s).first:Nat) } :=by
          rw [ha _ oz oz oz,bo,if_pos ⟨rfl,by omega⟩,h2.2.2.2.2.2 _ oz]
        refine ((ma.Uc s st a1).cat ⟨by rw [e1];exact RM,by rw [e1]⟩ (mb.Uc _ st a2)).congr fun i j=>?_
        simp only [bf];rw [if_pos hk]
      · rw [if_neg hk] at ha ⊢
        rw [if_neg hk] at ha
        simp only at ha ⊢
        have hlb:=mb.last (aW a s).s
        have a1:Q5 st (aW a s).s s.length (s.length+bA a) (aW a s).last:=fun j g1 g2 g3=>by
          rw [ha j g1 oz oz,bo,if_neg oz,bo,if_neg (fun h9=>g3 h9.1),bM oz];exact h2.2.2.2.2.2 j oz
        have a2:Q5 st (aW b (aW a s).s).s (aW a s).s.length ((aW a s).s.length+bA b) (aW b (aW a s).s).last:=fun j g1 g2 g3=>by
          rw [ha j oz oz oz,bo,if_neg (fun h9=>g3 h9.1),bo,if_neg oz,bM oz]
        have e1:st.getD (aW a s).last ay= { (aW a s).s.getD (aW a s).last ay with a:=((((aW b (aW a s).s).s.length:Nat):Int)+1) } :=by
          rw [ha _ oz oz oz,bo,if_neg oz,bo,if_pos ⟨rfl,by rw [List.length_append];omega⟩,bM oz,h2.2.2.2.2.2 _ oz]
        have e2:st.getD (aW b (aW a s).s).last ay= { (aW b (aW a s).s).s.getD (aW b (aW a s).s).last ay with a:=((((aW b (aW a s).s).s.length:Nat):Int)+1) } :=by
          rw [ha _ oz oz oz,bo,if_pos ⟨rfl,by rw [cK,List.length_append];omega⟩,bo,if_neg oz,bM oz]
        have e3:st.getD (aW b (aW a s).s).s.length ay=⟨3,((aW a s).first:Nat),((aW b (aW a s).s).first:Nat),Bs.zero⟩:=by
          rw [ha _ oz oz oz,bo,if_neg oz,bo,if_neg oz,List.getD_eq_getElem?_getD,List.getElem?_append_right (Nat.le_refl _)];simp
        refine (oJ.alt (q:=(aW b (aW a s).s).s.length) (s:=(aW b (aW a s).s).s.length+1) ⟨by rw [e3],by rw [e3],by rw [e3]⟩ (ma.Uc s st a1) ⟨by rw [e1];exact RM,by rw [e1];rfl⟩ (mb.Uc _ st a2) ⟨by rw [e2];exact hlb,by rw [e2];rfl⟩).congr fun i j=>?_
        simp only [bf];rw [if_neg hk]
theorem QP {l:List Nd} {st:List aR} {s0 f0:Int} {T:Tr} (h:qC l st s0 f0 0) (hw:T.wk) (hf:T.flat=l) (t:List Nat) (i J:Nat):Rc st t s0.toNat i f0.toNat J↔bf t T i J:=by
  rcases h with ⟨_,_,_,_,h⟩|⟨T',h1,h2,h3,⟨_,_,_,_,h⟩|⟨hz,rfl,rfl,rfl,_⟩⟩
  · omega
  · omega
  obtain rfl:=wm hw h1 (hf.trans h2.symm)
  have hm:=zY t T hw h3
  have VK:=gb T []
  simp only [List.length_nil,Nat.zero_add] at VK
  have hF:=hm.Uc [] ((aW T []).s.set (aW T []).last mQ) (fun j _ _ h9=>by
    rw [List.getD_eq_getElem?_getD,List.getElem?_set_ne oz,←List.getD_eq_getElem?_getD])
  have e6:(((aW T []).s.set (aW T []).last mQ).getD (aW T []).last ay).kind=6:=by
    rw [List.getD_eq_getElem?_getD,List.getElem?_set_self oz];rfl
  simp only [Int.toNat_natCast]
  refine ⟨fun h=>?_,fun h=>hF.bw i J h⟩
  obtain ⟨n,hn⟩:=h.ln
  obtain ⟨m,n',_,a,hl⟩:=hF.fw _ J e6 n i hn
  cases n' with
  | zero=>rw [←hl.2];exact a
  | succ n'=>
    obtain ⟨q',i',hE,_⟩:=hl
    unfold Ed at hE
    rw [e6] at hE
    exfalso;omega
def yp (t:List Nat) (p:Nat):Int:=if t.length=0 then 258 else if p=0 then 256 else if p=t.length then 257 else 0
inductive Nr (st:List aR) (sym:Int):Nat→Nat→Prop
  | refl (q:Nat):Nr st sym q q
  | step {q q' Ou:Nat} :Nr st sym q q'→((Ou:Nat):Int)∈zQ st sym (q':Int)→Nr st sym q Ou
theorem Nr.trans {st:List aR} {sym:Int} {a b c:Nat} (h:Nr st sym a b) (h':Nr st sym b c):Nr st sym a c:=by
  induction h' with
  | refl=>exact h
  | step _ e ih=>exact .step ih e
theorem rM {st:List aR} {s0 f0 sym:Int} {fr:List Int} (hN:rU st s0 f0) (hr:∀t,t∈fr→0≤t∧t<(st.length:Int)):qB st fr sym (j7 st fr sym):=by
  classical
  have key:∃o,qB st fr sym o:=by
    refine ⟨(List.range st.length).map fun q=>decide (∃x:Nat,(x:Int)∈fr∧Nr st sym x q),?_⟩
    have hm:∀q:Nat,((List.range st.length).map fun q=>decide (∃x:Nat,(x:Int)∈fr∧Nr st sym x q)).getD q false=true↔q<st.length∧∃x:Nat,(x:Int)∈fr∧Nr st sym x q:=fun q=>by
      rw [List.getD_eq_getElem?_getD,List.getElem?_map]
      rcases Nat.lt_or_ge q st.length with h|h
      · rw [List.getElem?_range h];simp [h]
      · rw [List.getElem?_eq_none (by simpa using h)];simp;omega
    refine ⟨by simp,fun t ht=>?_,fun s hs t ht=>?_,fun Q h1 h2 s hs=>?_⟩
    · have:=hr t ht
      rw [hm];exact ⟨by omega,t.toNat,by rw [show ((t.toNat:Nat):Int)=t by omega];exact ht,.refl _⟩
    · obtain ⟨g1,x,g2,g3⟩:=(hm s).1 hs
      have:=qZ hN (x:=(s:Int)) ⟨by omega,by omega⟩ t ht
      rw [hm];exact ⟨by omega,x,g2,.step g3 (by rw [show ((t.toNat:Nat):Int)=t by omega];exact ht)⟩
    · obtain ⟨_,x,g2,g3⟩:=(hm s).1 hs
      clear hs
      induction g3 with
      | refl=>exact h1 _ g2
      | @step a b g e ih=>
        refine h2 _ (ih ?_) _ e
        refine Nat.lt_of_not_le fun h9=>?_
        unfold zQ at e
        rw [Int.toNat_natCast,List.getD_eq_getElem?_getD,List.getElem?_eq_none h9] at e
        simp [ay,goN] at e
  unfold j7
  rw [dif_pos key]
  exact Classical.choose_spec key
theorem AM {st:List aR} {s0 f0 sym:Int} {fr:List Int} (hN:rU st s0 f0) (hr:∀t,t∈fr→0≤t∧t<(st.length:Int)) (q:Nat):(j7 st fr sym).getD q false=true↔∃x:Nat,(x:Int)∈fr∧Nr st sym x q:=by
  have hc:=rM (sym:=sym) hN hr
  constructor
  · intro h
    have:=hc.min (fun s=>0≤s∧∃x:Nat,(x:Int)∈fr∧Nr st sym x s.toNat) (fun t ht=>⟨(hr t ht).1,t.toNat,by rw [show ((t.toNat:Nat):Int)=t by have:=hr t ht;omega];exact ht,.refl _⟩) (fun s hs t ht=>?_) q h
    · simpa using this.2
    · obtain ⟨h0,x,g1,g2⟩:=hs
      have e:((s.toNat:Nat):Int)=s:=by omega
      have cF:s.toNat<st.length:=by
        refine Nat.lt_of_not_le fun h9=>?_
        unfold zQ at ht
        rw [List.getD_eq_getElem?_getD,List.getElem?_eq_none h9] at ht
        simp [ay,goN] at ht
      have:=qZ hN (x:=s) ⟨by omega,by omega⟩ t ht
      exact ⟨this.1,x,g1,.step g2 (by rw [e,show ((t.toNat:Nat):Int)=t by omega];exact ht)⟩
  · rintro ⟨x,g1,g2⟩
    induction g2 with
    | refl=>have:=hc.init _ g1;simpa using this
    | step a e ih=>have:=hc.j7 _ ih _ e;simpa using this
section
variable {st:List aR} {s0 f0:Int} {t:List Nat}
theorem Ed.le {q i q' j:Nat} (h:Ed st t q i q' j):i≤j:=by unfold Ed at h;omega
theorem Rc.le {q i q' j:Nat} (h:Rc st t q i q' j):i≤j:=by
  induction h with
  | refl=>exact Nat.le_refl _
  | step e _ ih=>exact Nat.le_trans e.le ih
def ByE (st:List aR) (t:List Nat) (q i q':Nat):Prop:=(st.getD q ay).kind=1∧i<t.length∧(st.getD q ay).set.has (t.getD i 0)=true∧q'=(st.getD q ay).a.toNat
theorem Rc.YY {x i y k p:Nat} (h:Rc st t x i y k) (hi:i≤p) (hk:p<k):∃q1 q2,Rc st t x i q1 p∧ByE st t q1 p q2∧Rc st t q2 (p+1) y k:=by
  induction h with
  | refl=>omega
  | @step q i q' i' Ou j e h ih=>
    by_cases hp:i'≤p
    · obtain ⟨q1,q2,a,b,c⟩:=ih hp hk
      exact ⟨q1,q2,.step e a,b,c⟩
    · unfold Ed at e
      have e2:(st.getD q ay).kind=1∧i<t.length∧(st.getD q ay).set.has (t.getD i 0)=true∧q'=(st.getD q ay).a.toNat∧i'=i+1:=by
        rcases e with e|e|e|e|e
        · exact e
        · omega
        · omega
        · omega
        · omega
      obtain ⟨e3,e4,e5,e6,e7⟩:=e2
      obtain rfl:i=p:=by omega
      subst e7
      exact ⟨q,q',.refl _ _,⟨e3,e4,e5,e6⟩,h⟩
theorem L1 (hN:rU st s0 f0) {q q' p:Nat} (hp:p≤t.length) (h:Ed st t q p q' p):((q':Nat):Int)∈zQ st (yp t p) (q:Int):=by
  have hq:q<st.length:=by
    refine Nat.lt_of_not_le fun h9=>?_
    unfold Ed at h
    rw [List.getD_eq_getElem?_getD,List.getElem?_eq_none h9] at h
    simp [ay] at h
  obtain ⟨_,_,_,_,_,g1,g2,g3,g4⟩:=(hN.RW q hq).1
  have ea:(((st.getD q ay).a.toNat:Nat):Int)=(st.getD q ay).a:=by omega
  have eb:(((st.getD q ay).b.toNat:Nat):Int)=(st.getD q ay).b:=by omega
  unfold Ed at h
  unfold zQ
  rw [Int.toNat_natCast]
  rcases h with h|⟨h,e,_⟩|⟨h,e,_⟩|⟨h,h1,e,_⟩|⟨h,h1,e,_⟩
  · omega
  · rw [if_neg oz,if_pos (by unfold goN;rw [decide_eq_true_eq];exact .inl h),e,ea];simp
  · rw [if_pos h];rcases e with e|e<;>rw [e]
    · rw [ea];simp
    · rw [eb];simp
  · have hg:goN (yp t p) (st.getD q ay)=true:=by
      unfold goN;rw [decide_eq_true_eq];refine .inr (.inl ⟨h,?_⟩);unfold yp;rw [h1];by_cases h0:t.length=0<;>simp [h0]
    rw [if_neg oz,if_pos hg,e,ea];simp
  · have hg:goN (yp t p) (st.getD q ay)=true:=by
      unfold goN;rw [decide_eq_true_eq];refine .inr (.inr ⟨h,?_⟩);unfold yp;rw [h1];by_cases h0:t.length=0<;>simp [h0]
    rw [if_neg oz,if_pos hg,e,ea];simp
theorem Nc (hN:rU st s0 f0) {q q' p:Nat} (h:((q':Nat):Int)∈zQ st (yp t p) (q:Int)) (hp:p≤t.length):Ed st t q p q' p:=by
  unfold zQ at h
  rw [Int.toNat_natCast] at h
  unfold Ed
  split at h
  · rename_i hk
    simp only [List.mem_cons,List.not_mem_nil,or_false] at h
    refine .inr (.inr (.inl ⟨hk,?_,rfl⟩));omega
  · split at h
    · rename_i hk hg
      simp only [List.mem_singleton] at h
      unfold goN at hg
      rw [decide_eq_true_eq] at hg
      unfold yp at hg
      by_cases h0:t.length=0
      · rw [if_pos h0] at hg
        rcases hg with hg|⟨hg,_⟩|⟨hg,_⟩
        · exact .inr (.inl ⟨hg,by omega,rfl⟩)
        · exact .inr (.inr (.inr (.inl ⟨hg,by omega,by omega,rfl⟩)))
        · exact .inr (.inr (.inr (.inr ⟨hg,by omega,by omega,rfl⟩)))
      · rw [if_neg h0] at hg
        by_cases hp0:p=0
        · rw [if_pos hp0] at hg
          rcases hg with hg|⟨hg,_⟩|⟨_,hg⟩
          · exact .inr (.inl ⟨hg,by omega,rfl⟩)
          · exact .inr (.inr (.inr (.inl ⟨hg,by omega,by omega,rfl⟩)))
          · omega
        · rw [if_neg hp0] at hg
          by_cases PL:p=t.length
          · rw [if_pos PL] at hg
            rcases hg with hg|⟨_,hg⟩|⟨hg,_⟩
            · exact .inr (.inl ⟨hg,by omega,rfl⟩)
            · omega
            · exact .inr (.inr (.inr (.inr ⟨hg,by omega,by omega,rfl⟩)))
          · rw [if_neg PL] at hg
            rcases hg with hg|⟨_,hg⟩|⟨_,hg⟩
            · exact .inr (.inl ⟨hg,by omega,rfl⟩)
            · omega
            · omega
    · cases h
theorem Rc.stay (hN:rU st s0 f0) {x y p:Nat} (hp:p≤t.length):Rc st t x p y p↔Nr st (yp t p) x y:=by
  constructor
  · intro h
    have key:∀ {x i y k:Nat},Rc st t x i y k→i=p→k=p→Nr st (yp t p) x y:=fun {x i y k} h=>by
      induction h with
      | refl=>intro _ _;exact .refl _
      | @step q i q' i' Ou j e h ih=>
        intro e1 e2
        have h1:=e.le
        have h2:=h.le
        have e3:i'=p:=by omega
        subst e1
        rw [e3] at e
        exact (Nr.step (.refl _) (L1 hN hp e)).trans (ih e3 e2)
    exact key h rfl rfl
  · intro h
    induction h with
    | refl=>exact .refl _ _
    | step _ e ih=>exact ih.trans (.step (Nc hN e hp) (.refl _ _))
def Full (st:List aR) (t:List Nat) (s i:Nat) (S:List Bool) (p:Nat):Prop:=S.length=st.length∧∀q,S.getD q false=true↔Rc st t s i q p
def V0 (st:List aR) (t:List Nat) (s i:Nat) (S:List Bool) (p:Nat):Prop:=S.length=st.length∧(∀q,S.getD q false=true→Rc st t s i q p)∧∀q,Rc st t s i q p→∃q0,S.getD q0 false=true∧Rc st t q0 p q p
theorem Full.gen {s i p:Nat} {S:List Bool} (h:Full st t s i S p):V0 st t s i S p:=⟨h.1,fun q=>(h.2 q).1,fun q hq=>⟨q,(h.2 q).2 hq,.refl _ _⟩⟩
theorem uD {S:List Bool} (h:S.length=st.length):∀x,x∈cq S→0≤x∧x<(st.length:Int):=fun x hx=>by have:=ko hx;omega
theorem Aa {S:List Bool} (q:Nat):((q:Nat):Int)∈cq S↔S.getD q false=true:=by
  rw [og]
  exact ⟨fun ⟨k,e,h⟩=>by (obtain rfl:q=k:=by omega);exact h,fun h=>⟨q,rfl,h⟩⟩
theorem V0.full (hN:rU st s0 f0) {s i p:Nat} {S:List Bool} (hp:p≤t.length) (h:V0 st t s i S p):Full st t s i (j7 st (cq S) (yp t p)) p:=by
  have hr:=uD h.1
  refine ⟨(rM hN hr).len,fun q=>?_⟩
  rw [AM hN hr]
  constructor
  · rintro ⟨x,g1,g2⟩
    exact (h.2.1 x ((Aa x).1 g1)).trans ((Rc.stay hN hp).2 g2)
  · intro hq
    obtain ⟨q0,g1,g2⟩:=h.2.2 q hq
    exact ⟨q0,(Aa q0).2 g1,(Rc.stay hN hp).1 g2⟩
theorem Nr.mono {sym:Int} {x y:Nat} (h:Nr st 0 x y):Nr st sym x y:=by
  induction h with
  | refl=>exact .refl _
  | @step a b _ e ih=>
    refine .step ih ?_
    unfold zQ at e ⊢
    split at e
    · rename_i h3
      rw [if_pos h3];exact e
    · rename_i h3
      rw [if_neg h3]
      split at e
      · rename_i hg
        rw [if_pos (by unfold goN at hg ⊢;simp only [decide_eq_true_eq] at hg ⊢;omega)];exact e
      · cases e
theorem IK (hN:rU st s0 f0) {i:Nat} (hi:i≤t.length):V0 st t s0.toNat i (j7 st [s0] 0) i∧(yp t i=0→Full st t s0.toNat i (j7 st [s0] 0) i):=by
  have hs:=hN.s
  have hr:∀x,x∈[s0]→0≤x∧x<(st.length:Int):=fun x hx=>by rw [List.mem_singleton] at hx;omega
  have hl:=(rM (sym:=0) hN hr).len
  have hm:=AM (sym:=0) hN hr
  have h0:(j7 st [s0] 0).getD s0.toNat false=true:=(hm _).2 ⟨s0.toNat,by rw [List.mem_singleton];omega,.refl _⟩
  have h1:∀q,(j7 st [s0] 0).getD q false=true→Rc st t s0.toNat i q i:=fun q hq=>by
    obtain ⟨x,g1,g2⟩:=(hm q).1 hq
    rw [List.mem_singleton] at g1
    rw [show s0.toNat=x by omega]
    exact (Rc.stay hN hi).2 g2.mono
  refine ⟨⟨hl,h1,fun q hq=>⟨_,h0,hq⟩⟩,fun h9=>⟨hl,fun q=>⟨h1 q,fun hq=>(hm q).2 ⟨s0.toNat,by rw [List.mem_singleton];omega,?_⟩⟩⟩⟩
  have:=(Rc.stay hN hi).1 hq
  rw [h9] at this;exact this
theorem Jt {fr:List Int} {b:Nat} {x:Int} :x∈ew st fr b↔∃y,y∈fr∧nh st b y=true∧x=(st.getD y.toNat ay).a:=by
  unfold ew
  rw [List.mem_map]
  constructor
  · rintro ⟨y,h,e⟩
    rw [List.mem_filter] at h
    exact ⟨y,h.1,h.2,e.symm⟩
  · rintro ⟨y,h1,h2,e⟩
    exact ⟨y,List.mem_filter.2 ⟨h1,h2⟩,e.symm⟩
theorem Full.step (hN:rU st s0 f0) {s i p:Nat} {S:List Bool} (TC:i≤p) (hp:p<t.length) (h:Full st t s i S p):
    V0 st t s i (j7 st (ew st (cq S) (t.getD p 0)) 0) (p+1)∧(yp t (p+1)=0→Full st t s i (j7 st (ew st (cq S) (t.getD p 0)) 0) (p+1)):=by
  have hr:=oO (b:=t.getD p 0) hN (uD h.1)
  have hl:=(rM (sym:=0) hN hr).len
  have hm:=AM (sym:=0) hN hr
  have Bd:∀x:Nat,(x:Int)∈ew st (cq S) (t.getD p 0)↔∃q1,Rc st t s i q1 p∧ByE st t q1 p x:=fun x=>by
    rw [Jt]
    constructor
    · rintro ⟨y,g1,g2,g3⟩
      have hy:=uD h.1 y g1
      have e:((y.toNat:Nat):Int)=y:=by omega
      rw [←e,Aa] at g1
      unfold nh at g2
      rw [Bool.and_eq_true,decide_eq_true_eq] at g2
      exact ⟨y.toNat,(h.2 _).1 g1,g2.1,hp,g2.2,by omega⟩
    · rintro ⟨q1,g1,g2,g3,g4,g5⟩
      have hq:q1<st.length:=by
        refine Nat.lt_of_not_le fun h9=>?_
        rw [List.getD_eq_getElem?_getD,List.getElem?_eq_none h9] at g2
        simp [ay] at g2
      have:=((hN.RW q1 hq).1).2.2.2.2.2.1
      refine ⟨(q1:Int),(Aa q1).2 ((h.2 _).2 g1),?_,?_⟩
      · unfold nh;rw [Bool.and_eq_true,decide_eq_true_eq,Int.toNat_natCast];exact ⟨g2,g4⟩
      · rw [Int.toNat_natCast];omega
  have Zn:∀ {q1 x:Nat},Rc st t s i q1 p→ByE st t q1 p x→Rc st t s i x (p+1):=fun {q1 x} a b=>a.trans (.step (.inl ⟨b.1,b.2.1,b.2.2.1,b.2.2.2,rfl⟩) (.refl _ _))
  have h1:∀q,(j7 st (ew st (cq S) (t.getD p 0)) 0).getD q false=true→Rc st t s i q (p+1):=fun q hq=>by
    obtain ⟨x,g1,g2⟩:=(hm q).1 hq
    obtain ⟨q1,g3,g4⟩:=(Bd x).1 g1
    exact (Zn g3 g4).trans ((Rc.stay hN oz).2 g2.mono)
  have h2:∀q,Rc st t s i q (p+1)→∃q2:Nat,(q2:Int)∈ew st (cq S) (t.getD p 0)∧Rc st t q2 (p+1) q (p+1):=fun q hq=>by
    obtain ⟨q1,q2,a,b,c⟩:=hq.YY TC (Nat.lt_succ_self p)
    exact ⟨q2,(Bd q2).2 ⟨q1,a,b⟩,c⟩
  refine ⟨⟨hl,h1,fun q hq=>?_⟩,fun h9=>⟨hl,fun q=>⟨h1 q,fun hq=>?_⟩⟩⟩
  · obtain ⟨q2,a,b⟩:=h2 q hq
    exact ⟨q2,(hm q2).2 ⟨q2,a,.refl _⟩,b⟩
  · obtain ⟨q2,a,b⟩:=h2 q hq
    have:=(Rc.stay hN oz).1 b
    rw [h9] at this
    exact (hm q).2 ⟨q2,a,this⟩
def DB (t:List Nat) (i j:Nat):List Int:=((t.take j).drop i).map fun x=>((x:Nat):Int)
def ft (t:List Nat) (i j:Nat):List Int:=if t.length=0 then [258] else (if i=0 then [256] else [])++DB t i j++(if j=t.length then [257] else [])
theorem DA (t:List Nat) (i:Nat):DB t i i=[]:=by unfold DB;rw [List.drop_of_length_le im];rfl
theorem Dz {i j:Nat} (cD:i≤j) (hj:j<t.length):DB t i (j+1)=DB t i j++[((t.getD j 0:Nat):Int)]:=by
  unfold DB
  rw [List.take_add_one,List.getElem?_eq_getElem hj,List.drop_append_of_le_length KU,List.map_append,List.getD_eq_getElem?_getD,List.getElem?_eq_getElem hj];rfl
theorem Iv (hN:rU st s0 f0) (hb:∀x,x∈t→x<256) {i j:Nat} (cD:i≤j) (hj:j≤t.length):Full st t s0.toNat i ((ft t i j).foldl (jm st) (j7 st [s0] 0)) j:=by
  have big:∀(S:List Bool) (sym:Int),¬sym<256→jm st S sym=j7 st (cq S) sym:=fun S sym h=>by unfold jm;rw [if_neg h]
  have small:∀(S:List Bool) (x:Nat),x<256→jm st S (x:Int)=j7 st (ew st (cq S) x) 0:=fun S x h=>by unfold jm;rw [if_pos oz,Int.toNat_natCast]
  have iu:=IK (t:=t) hN (i:=i) oz
  unfold ft
  by_cases h0:t.length=0
  · rw [if_pos h0]
    simp only [List.foldl_cons,List.foldl_nil]
    rw [big _ _ dk]
    have:=iu.1.full hN oz
    obtain rfl:i=j:=by omega
    rw [show yp t i=258 by unfold yp;rw [if_pos h0]] at this;exact this
  · rw [if_neg h0]
    have pre:∀k,i+k≤t.length→V0 st t s0.toNat i (((if i=0 then [256] else [])++DB t i (i+k)).foldl (jm st) (j7 st [s0] 0)) (i+k)∧(i+k<t.length→Full st t s0.toNat i (((if i=0 then [256] else [])++DB t i (i+k)).foldl (jm st) (j7 st [s0] 0)) (i+k)):=by
      intro k
      induction k with
      | zero=>
        intro _
        rw [Nat.add_zero,DA,List.append_nil]
        by_cases hi:i=0
        · rw [if_pos hi]
          simp only [List.foldl_cons,List.foldl_nil]
          rw [big _ _ dk]
          have:=iu.1.full hN oz
          rw [show yp t i=256 by unfold yp;rw [if_neg h0,if_pos hi]] at this
          exact ⟨this.gen,fun _=>this⟩
        · rw [if_neg hi]
          simp only [List.foldl_nil]
          refine ⟨iu.1,fun h9=>iu.2 ?_⟩
          unfold yp;rw [if_neg h0,if_neg hi,if_neg oz]
      | succ k ih=>
        intro hk
        have hF:=(ih oz).2 oz
        rw [show i+(k+1)=(i+k)+1 by omega,Dz oz oz,←List.append_assoc,List.foldl_append]
        simp only [List.foldl_cons,List.foldl_nil]
        rw [small _ _ (hb _ (ak oz))]
        have:=hF.step hN oz oz
        refine ⟨this.1,fun h9=>this.2 ?_⟩
        unfold yp;rw [if_neg h0,if_neg oz,if_neg oz]
    have hp:=pre (j-i) oz
    rw [show i+(j-i)=j by omega] at hp
    by_cases hjn:j=t.length
    · rw [if_pos hjn,List.foldl_append]
      simp only [List.foldl_cons,List.foldl_nil]
      rw [big _ _ dk]
      have:=hp.1.full hN oz
      rw [show yp t j=257 by unfold yp;rw [if_neg h0,if_neg oz,if_pos hjn]] at this;exact this
    · rw [if_neg hjn,List.append_nil]
      exact hp.2 oz
theorem uq (hb:∀x,x∈t→x<256) (i j:Nat):∀c,c∈ft t i j→0≤c∧c<259:=by
  intro c hc
  unfold ft at hc
  split at hc
  · rw [List.mem_singleton] at hc;omega
  · simp only [List.mem_append] at hc
    rcases hc with (hc|hc)|hc
    · split at hc
      · rw [List.mem_singleton] at hc;omega
      · cases hc
    · unfold DB at hc
      obtain ⟨x,h1,h2⟩:=List.mem_map.1 hc
      have:=hb x (List.mem_of_mem_take (List.mem_of_mem_drop h1));omega
    · split at hc
      · rw [List.mem_singleton] at hc;omega
      · cases hc
end
section
variable {α:Type} [DecidableEq α] {tr:α→Int→α} {d:α} {fs:List Int}
def DS (tr:α→Int→α) (d:α) (fs:List Int) (p:List α×List Int) (n c:Nat):Prop:=p.2.length=n*fs.length+c∧∀i e,e<fs.length→(i<n∨i=n∧e<c)→
  tr (p.1.getD i d) (fs.getD e 0)∈p.1∧p.2.getD (i*fs.length+e) 0=((ix (tr (p.1.getD i d) (fs.getD e 0)) p.1:Nat):Int)
theorem Ob {os:List α} {x y:α} (h:y∈os):y∈eg os x∧ix y (eg os x)=ix y os:=by
  unfold eg
  by_cases hx:x∈os
  · rw [if_pos hx];exact ⟨h,rfl⟩
  · rw [if_neg hx];exact ⟨List.mem_append_left _ h,qi _ h⟩
theorem SI {i n e w:Nat} (hi:i<n) (he:e<w):i*w+e<n*w:=by
  have:=Nat.mul_le_mul_right w (show i+1≤n from hi)
  rw [Nat.succ_mul] at this;omega
theorem DS.step {p:List α×List Int} {n c:Nat} (h:DS tr d fs p n c) (hn:n<p.1.length) (hc:c<fs.length):DS tr d fs (OY tr d n p (fs.getD c 0)) n (c+1):=by
  obtain ⟨h1,h2⟩:=h
  refine ⟨?_,fun i e he MN=>?_⟩
  · show (p.2++[_]).length=_;rw [List.length_append,List.length_singleton];omega
  · have Bd:i<p.1.length:=by omega
    show tr ((eg p.1 _).getD i d) _∈eg p.1 _∧(p.2++[_]).getD _ 0=((ix (tr ((eg p.1 _).getD i d) _) (eg p.1 _):Nat):Int)
    rw [zk d _ Bd]
    by_cases hq:i=n∧e=c
    · obtain ⟨rfl,rfl⟩:=hq
      refine ⟨DN _ _,?_⟩
      rw [←h1,List.getD_eq_getElem?_getD,List.getElem?_append_right (Nat.le_refl _)];simp
    · have XY:i<n∨i=n∧e<c:=by omega
      obtain ⟨g1,g2⟩:=h2 i e he XY
      obtain ⟨g3,g4⟩:=Ob (x:=tr (p.1.getD n d) (fs.getD c 0)) g1
      refine ⟨g3,?_⟩
      have cF:i*fs.length+e<p.2.length:=by
        rw [h1]
        rcases XY with h9|⟨h9,h8⟩
        · have:=SI h9 he;omega
        · subst h9;omega
      rw [List.getD_eq_getElem?_getD,List.getElem?_append_left cF,←List.getD_eq_getElem?_getD,g4];exact g2
theorem DS.row {p:List α×List Int} {n:Nat} (h:DS tr d fs p n 0) (r8:p.1.Nodup) (hn:n<p.1.length):∀c,c≤fs.length→DS tr d fs (kL tr d n (fs.take c) p) n c
  | 0,_=>h
  | c+1,hc=>by
    rw [lK oz]
    have hr:=s5.row (tr:=tr) (d:=d) r8 fs n c oz
    exact (DS.row h r8 hn c oz).step (Nat.lt_of_lt_of_le hn hr.Fg) oz
theorem GD (x0:α):∀n,(∀k,k<n→k<(dX tr d fs x0 k).1.length)→DS tr d fs (dX tr d fs x0 n) n 0∧(dX tr d fs x0 n).1.getD 0 d=x0∧0<(dX tr d fs x0 n).1.length
  | 0,_=>⟨⟨by simp [dX],fun i e _ h=>by omega⟩,rfl,by simp [dX]⟩
  | n+1,h=>by
    obtain ⟨h1,h2,h3⟩:=GD x0 n (fun k hk=>h k oz)
    have r8:=gC (tr:=tr) (d:=d) fs x0 n
    have hr:=h1.row r8 (h n oz) fs.length (Nat.le_refl _)
    have hi:=s5.row (tr:=tr) (d:=d) r8 fs n fs.length (Nat.le_refl _)
    rw [List.take_length] at hr hi
    refine ⟨⟨?_,fun i e he MN=>hr.2 i e he oz⟩,?_,Nat.lt_of_lt_of_le h3 hi.Fg⟩
    · have:=hr.1;rw [Nat.succ_mul];exact this
    · show (kL tr d n fs (dX tr d fs x0 n)).1.getD 0 d=x0
      rw [hi.yB 0 h3];exact h2
theorem xT.tab {x0:α} {az:Int} {os:List α} {nx:List Int} (h:xT tr d fs x0 az (os,nx)) (hm:(os.length:Int)≤az):
    os.getD 0 d=x0∧0<os.length∧∀i e,e<fs.length→i<os.length→tr (os.getD i d) (fs.getD e 0)∈os∧nx.getD (i*fs.length+e) 0=((ix (tr (os.getD i d) (fs.getD e 0)) os:Nat):Int):=by
  obtain ⟨n,h1,h2,h3⟩:=h
  obtain ⟨g1,g2,g3⟩:=GD (tr:=tr) (d:=d) (fs:=fs) x0 n (fun k hk=>(h1 k hk).1)
  rw [←h3] at g1 g2 g3 h2
  have hle:os.length≤n:=by
    refine Nat.le_of_not_lt fun h9=>h2 ⟨h9,hm⟩
  exact ⟨g2,g3,fun i e he hi=>g1.2 i e he oz⟩
end
theorem GA {st:List aR} {o:List Bool} {a b:Nat} (h:Q4 st st.length a b):jm st o (a:Int)=jm st o (b:Int):=by
  rcases h with rfl|⟨h1,h2,h3⟩
  · rfl
  · unfold jm
    rw [if_pos oz,if_pos oz,Int.toNat_natCast,Int.toNat_natCast]
    have:ew st (cq o) a=ew st (cq o) b:=by
      unfold ew
      have e:∀x,nh st a x=nh st b x:=fun x=>by
        unfold nh
        rcases Nat.lt_or_ge x.toNat st.length with h9|h9
        · rw [h3 _ h9]
        · rw [List.getD_eq_getElem?_getD,List.getElem?_eq_none h9];simp [ay]
      rw [funext e]
    rw [this]
theorem pG.run {st:List aR} {s0 f0 az:Int} {d:au} (h:pG st s0 f0 az d 0) {w:List Int} (hw:okW w):jg d d.start w=(w.foldl (jm st) (j7 st [s0] 0)).getD f0.toNat false:=by
  obtain ⟨cls,wd,os,nx,h1,h2,⟨hm,_,rfl⟩|⟨_,e,_⟩⟩:=h
  case inr=>omega
  obtain ⟨g1,g2,g3⟩:=h2.tab hm
  have me:=h1.kC
  have pU:=kZ h1
  have key:∀(w:List Int) (i:Nat),okW w→i<os.length→w.foldl (bO ⟨cls,wd,0,nx,os.map (·.getD f0.toNat false)⟩) (i:Int)=((ix (w.foldl (jm st) (os.getD i [])) os:Nat):Int)∧w.foldl (jm st) (os.getD i [])∈os:=by
    intro w
    induction w with
    | nil=>
      intro i _ hi
      have r8:=(h2.fin hm).2.2.1
      refine ⟨?_,ak hi⟩
      simp only [List.foldl_nil]
      have qk:os.getD i []∈os:=ak hi
      have e1:=mK (d:=([]:List Bool)) qk
      have e2:=oi qk
      have:ix (os.getD i []) os=i:=by
        generalize ix (os.getD i []) os=k at e1 e2 ⊢
        rw [List.getD_eq_getElem?_getD,List.getElem?_eq_getElem e2,List.getD_eq_getElem?_getD,List.getElem?_eq_getElem hi] at e1
        simp only [Option.getD_some] at e1
        exact (List.getElem_inj r8).1 e1
      rw [this]
    | cons c w ih=>
      intro i bB hi
      obtain ⟨hc,acA⟩:=bB.tail
      simp only [List.foldl_cons]
      have RP:c.toNat<cls.length:=by rw [h1.len];omega
      have hk:=me.2.2 c.toNat (by have:=h1.len;omega)
      have hkm:((cls.getD c.toNat 0).toNat:Int)=cls.getD c.toNat 0:=by omega
      have Aq:(cls.getD c.toNat 0).toNat<(aE cls wd).length:=by rw [pU.1];omega
      have qk:cls.getD c.toNat 0∈cls:=ak RP
      have hf:(aE cls wd).getD (cls.getD c.toNat 0).toNat 0=((ix (cls.getD c.toNat 0) cls:Nat):Int):=by
        rw [tH (by rw [←jc cls wd];exact Aq),hkm];unfold ie;rw [if_pos qk]
      have VO:=oi qk
      have Yf:Q4 st st.length (ix (cls.getD c.toNat 0) cls) c.toNat:=(h1.Zs _ _ (by rw [←h1.len];exact VO) oz).1 (mK qk)
      have htr:jm st (os.getD i []) ((aE cls wd).getD (cls.getD c.toNat 0).toNat 0)=jm st (os.getD i []) c:=by
        rw [hf,GA Yf,show ((c.toNat:Nat):Int)=c by omega]
      obtain ⟨q1,q2⟩:=g3 i _ Aq hi
      rw [htr] at q1 q2
      have Xw:bO ⟨cls,wd,0,nx,os.map (·.getD f0.toNat false)⟩ (i:Int) c=((ix (jm st (os.getD i []) c) os:Nat):Int):=by
        unfold bO
        simp only
        rw [←q2,pU.1]
        congr 1
        have:((i*wd.toNat+(cls.getD c.toNat 0).toNat:Nat):Int)=(i:Int)*wd+cls.getD c.toNat 0:=by
          rw [Int.natCast_add,Int.natCast_mul,hkm,Int.toNat_of_nonneg oz]
        omega
      rw [Xw]
      have cF:=oi q1
      have:=ih (ix (jm st (os.getD i []) c) os) acA cF
      rw [mK q1] at this
      exact this
  have:=key w 0 hw g2
  rw [g1] at this
  unfold jg
  simp only
  have t1:=this.1
  rw [show (((0:Nat)):Int)=0 from rfl] at t1
  rw [t1,Int.toNat_natCast]
  have cF:=oi this.2
  have e:=mK (d:=([]:List Bool)) this.2
  rw [List.getD_eq_getElem?_getD,List.getElem?_map,List.getElem?_eq_getElem cF]
  rw [List.getD_eq_getElem?_getD,List.getElem?_eq_getElem cF] at e
  simp only [Option.map_some,Option.getD_some] at e ⊢
  rw [e]
theorem gv.one {l:List Nd} {az:Int} {d:au} (h:gv l az d 0):∃st s0 f0 d1,qC l st s0 f0 0∧pG st s0 f0 az d1 0∧d=dZ d1:=by
  obtain ⟨st,s0,f0,e1,h1,⟨a,b,_⟩|⟨a,d1,e2,h3,⟨b,c,_⟩|⟨b,_,c⟩⟩⟩:=h
  · exact absurd b.symm a
  · exact absurd c.symm b
  · subst a;subst b;exact ⟨st,s0,f0,d1,h1,h3,c⟩
theorem gv.right {l:List Nd} {az:Int} {d:au} (h:gv l az d 0) (hm:az≤4096):aD d=true:=by
  obtain ⟨st,s0,f0,d1,_,h2,rfl⟩:=h.one
  exact Ae (h2.right hm)
theorem gv.fits {l:List Nd} {az:Int} {d:au} {T:Tr} (h:gv l az d 0) (hm:az≤4096) (hw:T.wk) (hf:T.flat=l) {t:List Nat} (hb:∀x,x∈t→x<256) {i j:Nat} (cD:i≤j) (hj:j≤t.length):
    jg d d.start (ft t i j)=true↔bf t T i j:=by
  obtain ⟨st,s0,f0,d1,h1,h2,rfl⟩:=h.one
  have bB:okW (ft t i j):=uq hb i j
  rw [CD (h2.right hm) _ bB,h2.run bB,←QP h1 hw hf t i j]
  exact (Iv h1.okN hb cD hj).2 _
def IF (p:ByteArray):Nat→Nat→List Tk→Option (List Tk)
  | 0,_,_=>none
  | k+1,a,o=>if a<p.size then (if bn p a=91 then none else match iB p a with|some (t,n)=>IF p k n (o++[t])|none=>none) else some o
theorem KX {p:ByteArray} {l:List Tk} :∀(k a:Nat) (o:List Tk),IF p k a o=some l→iP p a o ⟨l,0,0⟩
  | 0,_,_,h=>by cases h
  | k+1,a,o,h=>by
    unfold IF at h
    split at h
    · rename_i ha
      split at h
      · cases h
      · rename_i hb
        split at h
        · rename_i t n e
          exact .step ha (.inr ⟨hb,e.symm⟩) (KX k n _ h)
        · cases h
    · rename_i ha
      cases h;exact .done ha
theorem ye {p:ByteArray} {l:List Tk} (h:IF p 20 0 []=some l) (hs:p.size≤200):eu p ⟨l,0,0⟩:=by
  unfold eu;rw [if_neg oz];exact KX _ _ _ h
def Rl (l:List Tk) (o:List Nd):Bool:=(List.range l.length).all (fun j=>decide (eO l j=0))&&decide ((dE l l.length).st.length=1)&&decide ((bD (dE l l.length)).out=o)&&decide (o.length≤512)
theorem SO {p:ByteArray} {l:List Tk} {o:List Nd} (h:IF p 20 0 []=some l) (hs:p.size≤200) (h2:Rl l o=true):l9 p o 0 0:=by
  unfold Rl at h2
  simp only [Bool.and_eq_true,List.all_eq_true,decide_eq_true_eq,List.mem_range] at h2
  obtain ⟨⟨⟨a,b⟩,c⟩,d⟩:=h2
  refine ⟨l,0,0,ye h hs,.inr ⟨rfl,.inr ⟨a,.inr ⟨b,.inr ⟨by rw [c];exact d,c.symm,rfl,rfl⟩⟩⟩⟩⟩
def GY (l:List Tk):Bool:=(List.range l.length).all (fun j=>decide (eO l j=0))&&decide ((dE l l.length).st.length>1)
theorem LL {p:ByteArray} {l:List Tk} (h:IF p 20 0 []=some l) (hs:p.size≤200) (h2:GY l=true):l9 p [] p.size 3:=by
  unfold GY at h2
  simp only [Bool.and_eq_true,List.all_eq_true,decide_eq_true_eq,List.mem_range] at h2
  exact ⟨l,0,0,ye h hs,.inr ⟨rfl,.inr ⟨h2.1,.inl ⟨h2.2,rfl,rfl,rfl⟩⟩⟩⟩
def BR (st:List aR) (sym:Int) (o:List Bool):List Bool:=(List.range st.length).map fun q:Nat=>o.getD q false||(List.range st.length).any fun x:Nat=>o.getD x false&&(zQ st sym ((x:Nat):Int)).contains ((q:Nat):Int)
def JE (st:List aR) (fr:List Int):List Bool:=(List.range st.length).map fun q:Nat=>fr.contains ((q:Nat):Int)
def sT (st:List aR) (fr:List Int) (sym:Int):Nat→List Bool
  | 0=>JE st fr
  | k+1=>BR st sym (sT st fr sym k)
theorem z6 {n:Nat} {f:Nat→Bool} (q:Nat):((List.range n).map f).getD q false=true↔q<n∧f q=true:=by
  rw [List.getD_eq_getElem?_getD,List.getElem?_map]
  rcases Nat.lt_or_ge q n with h|h
  · rw [List.getElem?_range h];simp [h]
  · rw [List.getElem?_eq_none (by simpa using h)];simp;omega
theorem Dq (st:List aR) (fr:List Int) (sym:Int):∀k,(sT st fr sym k).length=st.length
  | 0=>by simp [sT,JE]
  | k+1=>by simp [sT,BR]
theorem vm {st:List aR} {sym:Int} {o:List Bool} (q:Nat):(BR st sym o).getD q false=true↔q<st.length∧(o.getD q false=true∨∃x,x<st.length∧o.getD x false=true∧(q:Int)∈zQ st sym (x:Int)):=by
  unfold BR
  rw [z6,Bool.or_eq_true,List.any_eq_true]
  constructor
  · rintro ⟨h1,h2|⟨x,hx,h3⟩⟩
    · exact ⟨h1,.inl h2⟩
    · rw [Bool.and_eq_true,List.contains_iff_mem] at h3
      exact ⟨h1,.inr ⟨x,List.mem_range.1 hx,h3.1,h3.2⟩⟩
  · rintro ⟨h1,h2|⟨x,hx,h3,h4⟩⟩
    · exact ⟨h1,.inl h2⟩
    · exact ⟨h1,.inr ⟨x,List.mem_range.2 hx,by rw [Bool.and_eq_true,List.contains_iff_mem];exact ⟨h3,h4⟩⟩⟩
theorem J9 {st:List aR} {s0 f0 sym:Int} {fr:List Int} {k:Nat} (hN:rU st s0 f0) (hr:∀t,t∈fr→0≤t∧t<(st.length:Int)) (hs:BR st sym (sT st fr sym k)=sT st fr sym k):j7 st fr sym=sT st fr sym k:=by
  refine AN hN ⟨Dq st fr sym k,fun t ht=>?_,fun s h t ht=>?_,fun Q h1 h2 s h=>?_⟩ (fun t ht=>(hr t ht).1)
  · have key:∀k,(sT st fr sym k).getD t.toNat false=true:=by
      intro k
      induction k with
      | zero=>
        have:=hr t ht
        show (JE st fr).getD _ _=_
        unfold JE;rw [z6,List.contains_iff_mem]
        exact ⟨by omega,by rw [show ((t.toNat:Nat):Int)=t by omega];exact ht⟩
      | succ k ih=>
        have:=hr t ht
        show (BR st sym _).getD _ _=_
        rw [vm];exact ⟨by omega,.inl ih⟩
    exact key k
  · have cF:s<st.length:=by
      refine Nat.lt_of_not_le fun h9=>?_
      rw [List.getD_eq_getElem?_getD,List.getElem?_eq_none (by rw [Dq];exact h9)] at h;cases h
    have:=qZ hN (x:=(s:Int)) ⟨by omega,by omega⟩ t ht
    rw [←hs,vm]
    exact ⟨by omega,.inr ⟨s,cF,h,by rw [show ((t.toNat:Nat):Int)=t by omega];exact ht⟩⟩
  · have key:∀k (s:Nat),(sT st fr sym k).getD s false=true→Q s:=by
      intro k
      induction k with
      | zero=>
        intro s h
        have h:(JE st fr).getD s false=true:=h
        unfold JE at h;rw [z6,List.contains_iff_mem] at h
        exact h1 _ h.2
      | succ k ih=>
        intro s h
        have h:(BR st sym (sT st fr sym k)).getD s false=true:=h
        rw [vm] at h
        rcases h.2 with h|⟨x,_,h3,h4⟩
        · exact ih s h
        · exact h2 _ (ih x h3) _ h4
    exact key k s h
def Tc (st:List aR) (L:List (List Bool)) (k:Nat) (fr:List Int) (sym:Int):Bool:=decide (BR st sym (sT st fr sym k)=sT st fr sym k)&&L.contains (sT st fr sym k)
def Rw (st:List aR) (R:List Nat):Bool:=(List.range 256).all fun b=>R.any fun r=>decide (r<256)&&(List.range st.length).all fun m=>(st.getD m ay).set.has b==(st.getD m ay).set.has r
def wJ (st:List aR) (s0:Int) (L:List (List Bool)) (k:Nat) (R:List Nat):Bool:=
  Tc st L k [s0] 0&&L.all (fun o=>decide (o.length=st.length)&&R.all (fun r=>Tc st L k (ew st (cq o) r) 0)&&Tc st L k (cq o) 256&&Tc st L k (cq o) 257&&Tc st L k (cq o) 258)&&Rw st R
theorem ru {st:List aR} {s0 f0 sym:Int} {fr:List Int} {L:List (List Bool)} {k:Nat} (hN:rU st s0 f0) (hr:∀t,t∈fr→0≤t∧t<(st.length:Int)) (h:Tc st L k fr sym=true):j7 st fr sym∈L:=by
  unfold Tc at h
  rw [Bool.and_eq_true,decide_eq_true_eq,List.contains_iff_mem] at h
  rw [J9 hN hr h.1];exact h.2
theorem QA {st:List aR} {s0 f0 az:Int} {L:List (List Bool)} {k:Nat} {R:List Nat} (hN:rU st s0 f0) (h:wJ st s0 L k R=true) (hm:(L.length:Int)≤az) {d:au} {er:Int} (hd:pG st s0 f0 az d er):er=0:=by
  unfold wJ at h
  simp only [Bool.and_eq_true,List.all_eq_true,decide_eq_true_eq] at h
  obtain ⟨⟨h1,h2⟩,h3⟩:=h
  have hs:=hN.s
  have PG:=ru hN (fun t ht=>by rw [List.mem_singleton] at ht;omega) h1
  have htr:∀o,o∈L→∀sym:Int,0≤sym→sym<259→jm st o sym∈L:=by
    intro o ho sym g1 g2
    obtain ⟨⟨⟨⟨q1,q2⟩,q3⟩,q4⟩,q5⟩:=h2 o ho
    have hl:=uD q1
    by_cases hb:sym<256
    · unfold Rw at h3
      rw [List.all_eq_true] at h3
      have h9:=h3 sym.toNat (List.mem_range.2 oz)
      rw [List.any_eq_true] at h9
      obtain ⟨r,hr,h8⟩:=h9
      simp only [Bool.and_eq_true,List.all_eq_true,decide_eq_true_eq,List.mem_range,beq_iff_eq] at h8
      have Yf:Q4 st st.length sym.toNat r:= .inr ⟨by omega,h8.1,fun m hm=>h8.2 m hm⟩
      rw [←show ((sym.toNat:Nat):Int)=sym by omega,GA Yf]
      unfold jm;rw [if_pos oz,Int.toNat_natCast]
      exact ru hN (oO hN hl) (q2 r hr)
    · unfold jm;rw [if_neg hb]
      rcases (by omega:sym=256∨sym=257∨sym=258) with rfl|rfl|rfl
      · exact ru hN hl q3
      · exact ru hN hl q4
      · exact ru hN hl q5
  obtain ⟨cls,wd,os,nx,g1,⟨n,e1,e2,e3⟩,g3⟩:=hd
  have pU:=kZ g1
  have jv:∀m,m≤n→∀o,o∈(dX (jm st) [] (aE cls wd) (j7 st [s0] 0) m).1→o∈L:=by
    intro m
    induction m with
    | zero=>intro _ o ho;simp only [dX,List.mem_singleton] at ho;rw [ho];exact PG
    | succ m ih=>
      intro hm9
      have r8:=gC (tr:=jm st) (d:=([]:List Bool)) (aE cls wd) (j7 st [s0] 0) m
      have cF:=(e1 m oz).1
      have row:∀c,c≤(aE cls wd).length→∀o,o∈(kL (jm st) [] m ((aE cls wd).take c) (dX (jm st) [] (aE cls wd) (j7 st [s0] 0) m)).1→o∈L:=by
        intro c
        induction c with
        | zero=>intro _;exact ih oz
        | succ c ihc=>
          intro hc
          rw [lK oz]
          have MH:=pU.2 _ (ak (d:=0) (show c<(aE cls wd).length by omega))
          have hr:=s5.row (tr:=jm st) (d:=([]:List Bool)) r8 (aE cls wd) m c oz
          exact DP (ihc oz) (htr _ (ihc oz _ (ak (Nat.lt_of_lt_of_le cF hr.Fg))) _ MH.1 MH.2)
      have:=row (aE cls wd).length (Nat.le_refl _)
      rw [List.take_length] at this;exact this
  have VH:=jv n (Nat.le_refl _)
  have r8:=gC (tr:=jm st) (d:=([]:List Bool)) (aE cls wd) (j7 st [s0] 0) n
  rw [←e3] at VH r8
  have hle:=r8.length_le_of_subset VH
  rcases g3 with ⟨_,a,_⟩|⟨a,_,_⟩
  · exact a
  · simp only at hle;omega
theorem gv.zero {l:List Nd} {az e:Int} {d:au} {T:Tr} {L:List (List Bool)} {k:Nat} {R:List Nat} (h:gv l az d e) (hw:T.wk) (ho:fM T) (hf:T.flat=l) (hl:l.length≤512) (hz:aU T≤600)
    (hc:wJ ((aW T []).s.set (aW T []).last mQ) ((aW T []).first:Nat) L k R=true) (hm:(L.length:Int)≤az):e=0:=by
  obtain ⟨st,s0,f0,e1,h1,h2⟩:=h
  have h9:qC l ((aW T []).s.set (aW T []).last mQ) ((aW T []).first:Nat) ((aW T []).last:Nat) 0:= .inr ⟨T,hw,hf,ho,.inr ⟨hz,rfl,rfl,rfl,rfl⟩⟩
  obtain ⟨rfl,rfl,rfl,rfl⟩:=h1.uniq h9 hl
  rcases h2 with ⟨a,_⟩|⟨_,d1,e2,h3,h4⟩
  · exact absurd rfl a
  · have:=QA h1.okN hc hm h3
    subst this
    rcases h4 with ⟨a,_⟩|⟨_,a,_⟩
    · exact absurd rfl a
    · exact a
theorem Jf:l9 ⟨#[97,40]⟩ [] 2 3:=LL (p:=⟨#[97,40]⟩) (l:=[⟨1,0,fZ [97],0,0⟩,⟨3,1,Bs.zero,0,0⟩]) (by decide+kernel) dk (by decide+kernel)
theorem W0:l9 ⟨#[97]⟩ [⟨1,fZ [97],0,0⟩] 0 0:=SO (l:=[⟨1,0,fZ [97],0,0⟩]) (by decide+kernel) dk (by decide+kernel)
theorem J8 {p:l8} {a e:Int} (h:nK ⟨#[97,40]⟩ 9 p a e):a=2∧e=3:=by
  have:=h.uniq (⟨_,_,_,Jf,.inl ⟨by decide,rfl,rfl,rfl⟩⟩:nK ⟨#[97,40]⟩ 9 jG 2 3)
  exact this.2
def vO (c:Nat):Tr:= .leaf ⟨1,fZ [c],0,0⟩
def ltL:List (List Bool):=[[true,false],[false,true],[false,false]]
def ltM:List (List Bool):=[[true,true,false,true,true,true,false],[false,true,true,true,true,true,false],[false,true,true,true,true,true,true]]
theorem Uy:wJ ((aW (vO 97) []).s.set (aW (vO 97) []).last mQ) ((aW (vO 97) []).first:Nat) ltL 2 [97,0]=true:=by decide+kernel
theorem Ux:wJ ((aW (s3 (vO 97)) []).s.set (aW (s3 (vO 97)) []).last mQ) ((aW (s3 (vO 97)) []).first:Nat) ltM 7 [97,0]=true:=by decide+kernel
theorem qf (c:Nat):(vO c).wk:= .inl rfl
theorem z8 (c:Nat):fM (vO c):=vP (by simp [cW])
theorem FY {c:Nat} {s:ByteArray} {R:List Nat} {az a e:Int} {p:l8} (h:nK s az p a e) (hp:l9 s [⟨1,fZ [c],0,0⟩] 0 0) (h1:wJ ((aW (vO c) []).s.set (aW (vO c) []).last mQ) ((aW (vO c) []).first:Nat) ltL 2 R=true)
    (h2:wJ ((aW (s3 (vO c)) []).s.set (aW (s3 (vO c)) []).last mQ) ((aW (s3 (vO c)) []).first:Nat) ltM 7 R=true) (hm:9≤az∧az≤1024):a=0∧e=0∧p.tree=(vO c).flat:=by
  obtain ⟨l,a1,e1,g1,g2⟩:=h
  obtain ⟨rfl,rfl,rfl⟩:=g1.uniq hp
  rcases g2 with ⟨b,_⟩|⟨_,⟨b,_⟩|⟨_,_,⟨b,_⟩|⟨_,b,g3⟩⟩⟩
  · exact absurd rfl b
  · omega
  · have:=sZ (qf c) (z8 c)
    rw [show (vO c).flat=[⟨1,fZ [c],0,0⟩] from rfl,b] at this
    simp at this
  · have g4:=g3.Wf (qf c) (z8 c) rfl (by simp)
    have z1:∀ {d:au} {e:Int},gv [⟨1,fZ [c],0,0⟩] az d e→e=0:=fun h=>h.zero (qf c) (z8 c) rfl (by simp) (by simp [aU,vO]) h1 (by simp [ltL];omega)
    have z2:∀ {d:au} {e:Int},gv (jR [⟨1,fZ [c],0,0⟩]) az d e→e=0:=fun h=>h.zero (rR (qf c)) (Il (z8 c)) (j8 _) (by rw [oE];simp) (by simp [aU,vO,s3,rN,dT,nd];omega) h2 (by simp [ltM];omega)
    have he:e=0:=by
      obtain ⟨d1,e1,k1,⟨q,_⟩|⟨q,d2,e2,k2,⟨q2,_⟩|⟨q2,d3,e3,k3,⟨q3,_⟩|⟨q3,r,_⟩⟩⟩⟩:=g4
      · exact absurd (z1 k1) q
      · exact absurd (z2 k2) q2
      · exact absurd (z2 k3) q3
      · exact r
    subst he
    exact ⟨b,rfl,g4.tree⟩
theorem iM {s:ByteArray} {az a:Int} {p:l8} {r:Bool} (h:nK s az p a 0) (hr:ZK p.tree p.fw p.se p.bk r):r=true:=by
  obtain ⟨_,_,hm,_,T,hw,ho,hf,hl,h4⟩:=h.some
  obtain ⟨q,er,h5,rfl⟩:=hr
  obtain ⟨rfl,rfl⟩:=(h5.Wf hw ho hf oz).uniq (h4.mono hm) hl (Bw (by rw [hf];exact hl))
  simp [vg]
theorem fq.W3 {l back:List Nd} {az:Int} {p:l8} (h:fq l back az p 0):gv l az p.fw 0∧gv (jR l) az p.se 0∧gv (jR back) az p.bk 0:=by
  obtain ⟨d1,e1,h1,⟨a,b,_⟩|⟨a,d2,e2,h2,⟨b,c,_⟩|⟨b,d3,e3,h3,⟨c,q,_⟩|⟨c,_,q⟩⟩⟩⟩:=h
  · exact absurd b.symm a
  · exact absurd c.symm b
  · exact absurd q.symm c
  · subst a;subst b;subst c;subst q;exact ⟨h1,h2,h3⟩
theorem Ff {c:Nat} {s:ByteArray} {az a:Int} {p:l8} (h:nK s az p a 0) (ht:p.tree=(vO c).flat) (hc:97≤c∧c<128):
    fb p.fw [(c:Int)]=true∧fb p.fw [98,(c:Int)]=false∧fb p.se [98,(c:Int)]=true:=by
  obtain ⟨_,_,hm,_,T,hw,ho,hf,hl,h4⟩:=h.some
  obtain ⟨o1,o2,_⟩:=h4.W3
  rw [ht] at o1 o2
  have hb:∀x,x∈[0,c,0]→x<256:=by intro x hx;simp at hx;omega
  have xm:∀x,x∈[0,98,c,0]→x<256:=by intro x hx;simp at hx;omega
  have w1:ft [0,c,0] 1 2=[(c:Int)]:=by simp [ft,DB]
  have w2:ft [0,98,c,0] 1 3=[98,(c:Int)]:=by simp [ft,DB]
  have XZ:(fZ [c]).has c=true:=by rw [mO (by intro x hx;simp at hx;omega) oz];simp
  have k1:okW [(c:Int)]:=by intro x hx;simp at hx;omega
  have k2:okW [98,(c:Int)]:=by intro x hx;simp at hx;omega
  have f1:=o1.fits oz (qf c) rfl hb (i:=1) (j:=2) oz (by simp)
  have f2:=o1.fits oz (qf c) rfl xm (i:=1) (j:=3) oz (by simp)
  have f3:=o2.fits oz (rR (qf c)) (j8 _) xm (i:=1) (j:=3) oz (by simp)
  rw [w1] at f1
  rw [w2] at f2 f3
  rw [fU (o1.right oz) k1,fU (o1.right oz) k2,fU (o2.right oz) k2]
  refine ⟨f1.2 ?_,Bool.eq_false_iff.2 fun h9=>?_,f3.2 ?_⟩
  · simp [bf,vO,XZ]
  · have:=f2.1 h9;simp [bf,vO] at this
  · refine ⟨2,⟨1,by decide,.inl rfl,1,rfl,?_⟩,?_⟩
    · simp [bf];decide
    · simp [bf,vO,XZ]
def ae3 (s:ByteArray) (b:Bool):Prop:=∃l a e,l9 s l a e∧((e≠0∧b=false)∨(e=0∧∃T,T.wk∧fM T∧T.flat=l∧b=decide (aU T>50)))
def lF (n:Nat) (F:Nat→Nat→Prop) (ps:List (LR Bool)):Prop:=
  ps.length=n+1∧∀i,i≤n→(ps.getD i ae).xs.length=n+1∧∀j,j≤n→((ps.getD i ae).xs.getD j false=true↔F i j)
theorem lF.len {n:Nat} {F:Nat→Nat→Prop} {ps:List (LR Bool)} (h:lF n F ps):ps.length=n+1:=h.1
theorem lF.row {n:Nat} {F:Nat→Nat→Prop} {ps:List (LR Bool)} (h:lF n F ps) {i:Nat} (hi:i≤n):(ps.getD i ae).xs.length=n+1:=(h.2 i hi).1
theorem lF.get {n:Nat} {F:Nat→Nat→Prop} {ps:List (LR Bool)} (h:lF n F ps) {i j:Nat} (hi:i≤n) (hj:j≤n):(ps.getD i ae).xs.getD j false=true↔F i j:=(h.2 i hi).2 j hj
theorem lF.congr {n:Nat} {F F':Nat→Nat→Prop} {ps:List (LR Bool)} (h:lF n F ps) (e:∀i j,i≤n→j≤n→(F i j↔F' i j)):lF n F' ps:=
  ⟨h.1,fun i hi=>⟨(h.2 i hi).1,fun j hj=>((h.2 i hi).2 j hj).trans (e i j hi hj)⟩⟩
def Q1 (n k:Nat) (ps:List (LR Bool)):Prop:=ps.length=k∧∀i,i<k→(ps.getD i ae).xs=List.replicate (n+1) false
theorem Q1.start (n:Nat):Q1 n 0 []:=⟨rfl,fun i h=>by omega⟩
theorem Q1.push {n k:Nat} {ps:List (LR Bool)} (h:Q1 n k ps) {p:LR Bool} (hp:p.xs=List.replicate (n+1) false):Q1 n (k+1) (ps++[p]):=by
  refine ⟨by simp [h.1],fun i hi=>?_⟩
  by_cases OD:i<k
  · rw [List.getD_eq_getElem?_getD,List.getElem?_append_left (by rw [h.1];omega),←List.getD_eq_getElem?_getD];exact h.2 i OD
  · have:i=ps.length:=by rw [h.1];omega
    subst this
    simp [List.getD_eq_getElem?_getD,hp]
theorem Q1.fin {n k:Nat} {ps:List (LR Bool)} (h:Q1 n k ps) (hk:k=n+1):lF n (fun _ _=>False) ps:=by
  subst hk
  refine ⟨h.1,fun i hi=>?_⟩
  rw [h.2 i oz]
  refine ⟨by simp,fun j hj=>?_⟩
  rw [List.getD_eq_getElem?_getD,List.getElem?_replicate]
  split<;>simp
theorem lF.put {n:Nat} {F F':Nat→Nat→Prop} {ps:List (LR Bool)} (h:lF n F ps) {i j:Nat} {v:Bool} {A:aP} {N C:Nat} (hi:i≤n) (hj:j≤n) (e1:v=true↔F' i j) (e:∀a b,a≤n→b≤n→¬(a=i∧b=j)→(F a b↔F' a b)):
    lF n F' (ps.set i ⟨A,N,C,(ps.getD i ae).xs.set j v⟩):=by
  refine ⟨by simp [h.1],fun a ha=>?_⟩
  have hl:=h.1
  by_cases hai:a=i
  · subst hai
    have e0:(ps.set a ⟨A,N,C,(ps.getD a ae).xs.set j v⟩).getD a ae=⟨A,N,C,(ps.getD a ae).xs.set j v⟩:=by
      rw [List.getD_eq_getElem?_getD,List.getElem?_set_self oz];rfl
    rw [e0]
    refine ⟨by rw [List.length_set];exact h.row ha,fun b hb=>?_⟩
    by_cases hbj:b=j
    · subst hbj
      have:((ps.getD a ae).xs.set b v).getD b false=v:=by rw [List.getD_eq_getElem?_getD,List.getElem?_set_self (by rw [h.row ha];omega)];rfl
      rw [show (⟨A,N,C,(ps.getD a ae).xs.set b v⟩:LR Bool).xs=(ps.getD a ae).xs.set b v from rfl,this];exact e1
    · have:((ps.getD a ae).xs.set j v).getD b false=(ps.getD a ae).xs.getD b false:=by rw [List.getD_eq_getElem?_getD,List.getElem?_set_ne oz,←List.getD_eq_getElem?_getD]
      rw [show (⟨A,N,C,(ps.getD a ae).xs.set j v⟩:LR Bool).xs=(ps.getD a ae).xs.set j v from rfl,this,h.get ha hb]
      exact e a b ha hb (fun q=>hbj q.2)
  · have e0:(ps.set i ⟨A,N,C,(ps.getD i ae).xs.set j v⟩).getD a ae=ps.getD a ae:=by
      rw [List.getD_eq_getElem?_getD,List.getElem?_set_ne oz,←List.getD_eq_getElem?_getD]
    rw [e0]
    exact ⟨h.row ha,fun b hb=>(h.get ha hb).trans (e a b ha hb (fun q=>hai q.1))⟩
def Kt (F G:Nat→Nat→Prop) (i j:Nat):Prop:=∃m,i≤m∧m≤j∧F i m∧G m j
def fe (F G:Nat→Nat→Prop) (i m j:Nat) (a b:Nat):Prop:=∃c,a≤c∧c≤b∧F a c∧G c b∧(a<i∨a=i∧(c<m∨c=m∧b<j))
theorem fe.start {F G:Nat→Nat→Prop} {a b:Nat} :False↔fe F G 0 0 0 a b:=⟨False.elim,fun ⟨c,_,_,_,_,h⟩=>by omega⟩
theorem fe.step {F G:Nat→Nat→Prop} {i m j a b:Nat} (bm:¬(a=i∧b=j)):fe F G i m j a b↔fe F G i m (j+1) a b:=
  ⟨fun ⟨c,h1,h2,h3,h4,h5⟩=>⟨c,h1,h2,h3,h4,by omega⟩,fun ⟨c,h1,h2,h3,h4,h5⟩=>⟨c,h1,h2,h3,h4,by omega⟩⟩
theorem fe.at {F G:Nat→Nat→Prop} {i m j:Nat} (hi:i≤m) (hj:m≤j) (hF:F i m):(fe F G i m j i j∨G m j)↔fe F G i m (j+1) i j:=by
  constructor
  · rintro (⟨c,h1,h2,h3,h4,h5⟩|h)
    · exact ⟨c,h1,h2,h3,h4,by omega⟩
    · exact ⟨m,hi,hj,hF,h,by omega⟩
  · rintro ⟨c,h1,h2,h3,h4,h5⟩
    by_cases hc:c=m
    · subst hc;exact .inr h4
    · exact .inl ⟨c,h1,h2,h3,h4,by omega⟩
theorem fe.Rp {F G:Nat→Nat→Prop} {n i m j a b:Nat} (hb:b≤n) (h:n<j∨¬F i m):fe F G i m j a b↔fe F G i (m+1) (m+1) a b:=by
  constructor
  · rintro ⟨c,h1,h2,h3,h4,h5⟩;exact ⟨c,h1,h2,h3,h4,by omega⟩
  · rintro ⟨c,h1,h2,h3,h4,h5⟩
    refine ⟨c,h1,h2,h3,h4,?_⟩
    by_cases hc:a=i∧c=m
    · obtain ⟨rfl,rfl⟩:=hc
      rcases h with h|h
      · omega
      · exact absurd h3 h
    · omega
theorem fe.L9 {F G:Nat→Nat→Prop} {n i m j a b:Nat} (hb:b≤n) (h:n<m):fe F G i m j a b↔fe F G (i+1) (i+1) (i+1) a b:=
  ⟨fun ⟨c,h1,h2,h3,h4,h5⟩=>⟨c,h1,h2,h3,h4,by omega⟩,fun ⟨c,h1,h2,h3,h4,h5⟩=>⟨c,h1,h2,h3,h4,by omega⟩⟩
theorem fe.fin {F G:Nat→Nat→Prop} {n i m j a b:Nat} (ha:a≤n) (h:n<i):fe F G i m j a b↔Kt F G a b:=
  ⟨fun ⟨c,h1,h2,h3,h4,h5⟩=>⟨c,h1,h2,h3,h4⟩,fun ⟨c,h1,h2,h3,h4⟩=>⟨c,h1,h2,h3,h4,by omega⟩⟩
theorem fe.yes {F G:Nat→Nat→Prop} {n i m j:Nat} {U:List (LR Bool)} (hU:lF n (fe F G i m j) U) (hi:i≤n) (hj:j≤n) (hm:i≤m) (VL:m≤j) (hF:F i m) (h:(U.getD i ae).xs.getD j false=true):true=true↔fe F G i m (j+1) i j:=
  ⟨fun _=>(fe.at hm VL hF).1 (.inl ((hU.get hi hj).1 h)),fun _=>rfl⟩
theorem fe.no {F G:Nat→Nat→Prop} {n i m j:Nat} {U B:List (LR Bool)} (hU:lF n (fe F G i m j) U) (hB:lF n G B) (hi:i≤n) (hj:j≤n) (hm:i≤m) (VL:m≤j) (hF:F i m) (h:¬(U.getD i ae).xs.getD j false=true):(B.getD m ae).xs.getD j false=true↔fe F G i m (j+1) i j:=by
  rw [hB.get oz hj,←fe.at hm VL hF]
  exact ⟨fun h9=> .inr h9,fun h9=>h9.elim (fun h9=>absurd ((hU.get hi hj).2 h9) h) id⟩
def Gp (F G:Nat→Nat→Prop) (i j:Nat):Prop:=i≤j∧(F i j∨G i j)
def ik (F G:Nat→Nat→Prop) (i j:Nat) (a b:Nat):Prop:=Gp F G a b∧(a<i∨a=i∧b<j)
theorem ik.start {F G:Nat→Nat→Prop} {a b:Nat} :False↔ik F G 0 0 a b:=⟨False.elim,fun ⟨_,h⟩=>by omega⟩
theorem ik.step {F G:Nat→Nat→Prop} {i j a b:Nat} (bm:¬(a=i∧b=j)):ik F G i j a b↔ik F G i (j+1) a b:=⟨fun ⟨h1,h2⟩=>⟨h1,by omega⟩,fun ⟨h1,h2⟩=>⟨h1,by omega⟩⟩
theorem ik.at {F G:Nat→Nat→Prop} {i j:Nat} (hj:i≤j):(F i j∨G i j)↔ik F G i (j+1) i j:=⟨fun h=>⟨⟨hj,h⟩,by omega⟩,fun h=>h.1.2⟩
theorem ik.L9 {F G:Nat→Nat→Prop} {n i j a b:Nat} (hb:b≤n) (h:n<j):ik F G i j a b↔ik F G (i+1) (i+1) a b:=
  ⟨fun ⟨h1,h2⟩=>⟨h1,by have:=h1.1;omega⟩,fun ⟨h1,h2⟩=>⟨h1,by have:=h1.1;omega⟩⟩
theorem ik.fin {F G:Nat→Nat→Prop} {n i j a b:Nat} (ha:a≤n) (h:n<i):ik F G i j a b↔Gp F G a b:=⟨fun h=>h.1,fun h=>⟨h,by omega⟩⟩
theorem ik.yes {F G:Nat→Nat→Prop} {n i j:Nat} {A:List (LR Bool)} (hA:lF n F A) (hi:i≤n) (hj:j≤n) (cD:i≤j) (h:(A.getD i ae).xs.getD j false=true):true=true↔ik F G i (j+1) i j:=
  ⟨fun _=>(ik.at cD).1 (.inl ((hA.get hi hj).1 h)),fun _=>rfl⟩
theorem ik.no {F G:Nat→Nat→Prop} {n i j:Nat} {A B:List (LR Bool)} (hA:lF n F A) (hB:lF n G B) (hi:i≤n) (hj:j≤n) (cD:i≤j) (h:¬(A.getD i ae).xs.getD j false=true):(B.getD i ae).xs.getD j false=true↔ik F G i (j+1) i j:=by
  rw [hB.get hi hj,←ik.at cD]
  exact ⟨fun h9=> .inr h9,fun h9=>h9.elim (fun h9=>absurd ((hA.get hi hj).2 h9) h) id⟩
theorem bK.le {F:Nat→Nat→Prop} (hF:∀i j,F i j→i≤j):∀ {k i j:Nat},bK F k i j→i≤j
  | 0,i,j,h=>by have:i=j:=h;omega
  | k+1,i,j,⟨m,h1,h2⟩=>Nat.le_trans (bK.le hF h1) (hF m j h2)
theorem bK.RZ {F:Nat→Nat→Prop} (hF:∀i j,F i j→i≤j):∀ {k i j:Nat},bK F (k+1) i j→j<i+(k+1)→bK F k i j
  | 0,i,j,⟨m,h1,h2⟩,hl=>by
    have e:i=m:=h1
    have:=hF m j h2
    have:i=j:=by omega
    exact this
  | k+1,i,j,⟨m,h1,h2⟩,hl=>by
    have hm:=hF m j h2
    by_cases h:m<i+(k+1)
    · exact ⟨m,bK.RZ hF h1 h,h2⟩
    · have:m=j:=by omega
      subst this;exact h1
theorem bK.cut {F:Nat→Nat→Prop} (hF:∀i j,F i j→i≤j) {n lo:Nat} :∀ {c i j:Nat},bK F (lo+c) i j→j≤n→∃c',c'≤n∧c'≤c∧bK F (lo+c') i j
  | 0,i,j,h,hj=>⟨0,Nat.zero_le _,Nat.le_refl _,h⟩
  | c+1,i,j,h,hj=>by
    by_cases hc:c+1≤n
    · exact ⟨c+1,hc,Nat.le_refl _,h⟩
    · obtain ⟨c',h1,h2,h3⟩:=bK.cut hF (bK.RZ hF h oz:bK F (lo+c) i j) hj
      exact ⟨c',h1,by omega,h3⟩
theorem bf.le {t:List Nat} :∀ {T:Tr} {i j:Nat},bf t T i j→i≤j
  | .leaf n,i,j,h=>by unfold bf at h;split at h<;>(try split at h)<;>(try split at h)<;>omega
  | .rep n a,i,j,h=>by unfold bf at h;obtain ⟨k,_,_,h3⟩:=h;exact bK.le (fun i j h=>bf.le h) h3
  | .bin n a b,i,j,h=>by
    unfold bf at h
    split at h
    · obtain ⟨m,h1,h2⟩:=h;exact Nat.le_trans (bf.le h1) (bf.le h2)
    · rcases h with h|h<;>exact bf.le h
theorem bf.lt {t:List Nat} :∀ {T:Tr} {i j:Nat},bf t T i j→i≤t.length→j≤t.length
  | .leaf n,i,j,h,hi=>by unfold bf at h;split at h<;>(try split at h)<;>(try split at h)<;>omega
  | .rep n a,i,j,h,hi=>by
    unfold bf at h;obtain ⟨k,_,_,h3⟩:=h
    have:∀ {k i j:Nat},bK (bf t a) k i j→i≤t.length→j≤t.length:=by
      intro k
      induction k with
      | zero=>intro i j h hi;have:i=j:=h;omega
      | succ k ih=>rintro i j ⟨m,h1,h2⟩ hi;exact bf.lt h2 (ih h1 hi)
    exact this h3 hi
  | .bin n a b,i,j,h,hi=>by
    unfold bf at h
    split at h
    · obtain ⟨m,h1,h2⟩:=h;exact bf.lt h2 (bf.lt h1 hi)
    · rcases h with h|h<;>exact bf.lt h hi
theorem lb {t:List Nat} {n:Nd} {a b:Tr} (hk:n.kind=5) {i j:Nat} :Kt (bf t a) (bf t b) i j↔bf t (.bin n a b) i j:=by
  constructor
  · rintro ⟨m,_,_,h1,h2⟩;unfold bf;rw [if_pos hk];exact ⟨m,h1,h2⟩
  · intro h;unfold bf at h;rw [if_pos hk] at h;obtain ⟨m,h1,h2⟩:=h;exact ⟨m,bf.le h1,bf.le h2,h1,h2⟩
theorem ox {t:List Nat} {n:Nd} {a b:Tr} (hk:n.kind≠5) {i j:Nat} :Gp (bf t a) (bf t b) i j↔bf t (.bin n a b) i j:=by
  constructor
  · rintro ⟨_,h⟩;unfold bf;rw [if_neg hk];exact h
  · intro h;unfold bf at h;rw [if_neg hk] at h;exact ⟨h.elim bf.le bf.le,h⟩
theorem kv {F:Nat→Nat→Prop} (hF:∀i j,F i j→i≤j) {k i j:Nat} :Kt (bK F k) F i j↔bK F (k+1) i j:=
  ⟨fun ⟨m,_,_,h1,h2⟩=>⟨m,h1,h2⟩,fun ⟨m,h1,h2⟩=>⟨m,bK.le hF h1,hF m j h2,h1,h2⟩⟩
def tR (F:Nat→Nat→Prop) (lo k:Nat) (i j:Nat):Prop:=∃c,c≤k∧bK F (lo+c) i j
theorem fi {F:Nat→Nat→Prop} {lo i j:Nat} :bK F lo i j↔tR F lo 0 i j:=by
  constructor
  · exact fun h=>⟨0,Nat.le_refl _,h⟩
  · rintro ⟨c,hc,h⟩
    have hc0:c=0:=by omega
    rw [hc0] at h;exact h
theorem Js {F:Nat→Nat→Prop} (hF:∀i j,F i j→i≤j) {lo k i j:Nat} :Gp (tR F lo k) (bK F (lo+k+1)) i j↔tR F lo (k+1) i j:=by
  constructor
  · rintro ⟨_,⟨c,hc,h⟩|h⟩
    · exact ⟨c,by omega,h⟩
    · exact ⟨k+1,Nat.le_refl _,h⟩
  · rintro ⟨c,hc,h⟩
    refine ⟨bK.le hF h,?_⟩
    by_cases e:c=k+1
    · subst e;exact .inr h
    · exact .inl ⟨c,by omega,h⟩
theorem dp {t:List Nat} {n:Nd} {a:Tr} {lo k:Nat} (Ao:n.lo=(lo:Int)) (hk:n.hi= -1∧k=t.length∨n.hi≠ -1∧n.hi=(lo:Int)+(k:Int)) {i j:Nat} (hj:j≤t.length):tR (bf t a) lo k i j↔bf t (.rep n a) i j:=by
  constructor
  · rintro ⟨c,hc,h⟩
    unfold bf
    exact ⟨lo+c,by omega,by omega,h⟩
  · intro h
    unfold bf at h
    obtain ⟨q,h1,h2,h3⟩:=h
    obtain ⟨c,rfl⟩:∃c,q=lo+c:=⟨q-lo,by omega⟩
    rcases hk with ⟨_,e⟩|⟨e1,e2⟩
    · obtain ⟨c',h4,_,h5⟩:=bK.cut (fun i j h=>bf.le h) h3 hj
      exact ⟨c',by omega,h5⟩
    · exact ⟨c,by omega,h3⟩
def tN (s:ByteArray):List Nat:=s.data.toList.map UInt8.toNat
theorem bY (s:ByteArray):(tN s).length=s.size:=by simp [tN]
theorem Lc (s:ByteArray) (j:Nat):(tN s).getD j 0=bn s j:=by
  unfold tN bn
  simp only [List.getD_eq_getElem?_getD,List.getElem?_map]
  cases s.data.toList[j]?<;>rfl
theorem Wk (s:ByteArray):∀x,x∈tN s→x<256:=by
  intro x hx
  obtain ⟨b,_,rfl⟩:=List.mem_map.1 hx
  exact b.toNat_lt
theorem kX {s:ByteArray} {n:Nd} (hk:n.kind=1) {i a b:Nat} (hi:i=s.size):(a<i∧b=a+1∧n.set.has (bn s a)=true)↔bf (tN s) (.leaf n) a b:=by
  unfold bf
  rw [if_pos hk,bY,Lc,hi]
theorem gJ {s:ByteArray} {n:Nd} (hk:n.kind=2) {a b:Nat} :a=b↔bf (tN s) (.leaf n) a b:=by
  unfold bf
  rw [if_neg oz,if_pos hk]
theorem gK {s:ByteArray} {n:Nd} (hk:n.kind=3) {a b:Nat} :(a=0∧b=0)↔bf (tN s) (.leaf n) a b:=by
  unfold bf
  rw [if_neg oz,if_neg oz,if_pos hk]
theorem kY {s:ByteArray} {n:Nd} (hk:n.kind=4) {a b:Nat} :(a=s.size∧b=s.size)↔bf (tN s) (.leaf n) a b:=by
  unfold bf
  rw [if_neg oz,if_neg oz,if_neg oz,bY]
theorem OM {T:Tr} (h:T.wk):T.root.kind=1∨T.root.kind=2∨T.root.kind=3∨T.root.kind=4∨T.root.kind=5∨T.root.kind=6∨T.root.kind=7:=by
  cases T with
  | leaf n=>unfold Tr.wk at h;simp only [Tr.root];omega
  | rep n a=>have:=h.1;simp only [Tr.root];omega
  | bin n a b=>have:=h.1;simp only [Tr.root];omega
theorem sA {F:Nat→Nat→Prop} (hF:∀i j,F i j→i≤j) {lo k i j:Nat} :Gp (tR F lo k) (Kt (bK F (lo+k)) F) i j↔tR F lo (k+1) i j:=
  Iff.trans ⟨fun h=>⟨h.1,h.2.elim .inl (fun h9=> .inr ((kv hF).1 h9))⟩,fun h=>⟨h.1,h.2.elim .inl (fun h9=> .inr ((kv hF).2 h9))⟩⟩ (Js hF)
theorem vK {F:Nat→Nat→Prop} (hF:∀i j,F i j→i≤j) {lo i j:Nat} :Gp (bK F lo) (Kt (bK F lo) F) i j↔tR F lo 1 i j:=
  Iff.trans ⟨fun h=>⟨h.1,h.2.elim (fun h9=> .inl (fi.1 h9)) .inr⟩,fun h=>⟨h.1,h.2.elim (fun h9=> .inl (fi.2 h9)) .inr⟩⟩ (sA (k:=0) hF)
theorem abR {P:Program} [Tb P] {n:Nat} {Q:Exit→Act→World→Prop} {w:World} {g:Gl} {fs:List Fr} {Γ:Env} {c:Code} (k:Nat) (I:Nat→Env→World→Prop) (m:Nat) (e:bT P n k g= .code (.loop c) fs Γ:=by rfl) (i:I m Γ w)
    (h:∀m Γ w,I m Γ w→Gl.is P n Q w (.code c (.iv (fun a' w'=>∃m',m'<m∧∃Γ',cR n a' Γ'∧I m' Γ' w')::fs) Γ)):Gl.is P n Q w g:=ar k g (e▸W.loop I m i h)
theorem Ij {t:List Nat} (hb:∀x,x∈t→x<256) {i j:Nat} :bf t (.leaf ⟨1,Oa,0,0⟩) i j↔i<t.length∧j=i+1:=by
  unfold bf
  rw [if_pos rfl]
  constructor
  · exact fun h=>⟨h.1,h.2.1⟩
  · refine fun h=>⟨h.1,h.2,?_⟩
    have:t.getD i 0<256:=hb _ (ak h.1)
    rw [show Oa=fF Bs.zero from rfl,C0 _ this,dz];rfl
theorem vU {t:List Nat} (hb:∀x,x∈t→x<256):∀ {k i j:Nat},j≤t.length→(bK (bf t (.leaf ⟨1,Oa,0,0⟩)) k i j↔j=i+k)
  | 0,i,j,hj=>⟨fun h=>by have:i=j:=h;omega,fun h=>(by omega:i=j)⟩
  | k+1,i,j,hj=>by
    constructor
    · rintro ⟨m,h1,h2⟩
      obtain ⟨h3,h4⟩:=(Ij hb).1 h2
      have:=(vU hb oz).1 h1
      omega
    · intro h
      exact ⟨i+k,(vU hb oz).2 rfl,(Ij hb).2 ⟨by omega,by omega⟩⟩
theorem Ik {t:List Nat} (hb:∀x,x∈t→x<256) {T:Tr} {i j:Nat} (hi:i≤j) (hj:j≤t.length):bf t (s3 T) i j↔∃k,i≤k∧k≤j∧bf t T k j:=by
  unfold s3
  rw [bf,if_pos (show (nd 5).kind=5 from rfl)]
  constructor
  · rintro ⟨m,h1,h2⟩
    have hm:=bf.le h2
    have h3:=bf.le h1
    exact ⟨m,h3,hm,h2⟩
  · rintro ⟨m,h1,h2,h3⟩
    refine ⟨m,?_,h3⟩
    rw [bf]
    exact ⟨m-i,by simp,.inl rfl,(vU hb oz).2 oz⟩
theorem Hl {n:Nat} {F:Nat→Nat→Prop} (hF:∀i j,F i j→i≤n→j≤n):∀ {k i j:Nat},bK F k i j→i≤n→j≤n
  | 0,i,j,h,hi=>by have:i=j:=h;omega
  | k+1,i,j,⟨m,h1,h2⟩,hi=>hF m j h2 (Hl hF h1 hi)
theorem sF {n:Nat} {F F':Nat→Nat→Prop} (hF:∀i j,F i j→i≤n→j≤n) (hF':∀i j,F' i j→i≤n→j≤n) (e:∀i j,i≤n→j≤n→(F' (n-j) (n-i)↔F i j)):
    ∀ {k i j:Nat},i≤n→j≤n→(bK F' k (n-j) (n-i)↔bK F k i j)
  | 0,i,j,hi,hj=>⟨fun h=>by have:n-j=n-i:=h;exact (by omega:i=j),fun h=>by have:i=j:=h;subst this;exact (rfl:n-i=n-i)⟩
  | k+1,i,j,hi,hj=>by
    refine Iff.trans ?_ (bK.front (F:=F)).symm
    constructor
    · rintro ⟨m,h1,h2⟩
      have hm:m≤n:=Hl hF' h1 oz
      have em:m=n-(n-m):=by omega
      rw [em] at h1 h2
      exact ⟨n-m,(e i (n-m) hi oz).1 h2,(sF hF hF' e oz hj).1 h1⟩
    · rintro ⟨m,h1,h2⟩
      have hm:m≤n:=hF _ _ h1 hi
      exact ⟨n-m,(sF hF hF' e hm hj).2 h2,(e i m hi hm).2 h1⟩
theorem GP {t:List Nat} {i:Nat} (hi:i<t.length):t.reverse.getD (t.length-(i+1)) 0=t.getD i 0:=by
  simp only [List.getD_eq_getElem?_getD]
  rw [List.getElem?_reverse oz,show t.length-1-(t.length-(i+1))=i by omega]
theorem gT {t:List Nat} :∀ {T:Tr},T.wk→∀ {i j:Nat},i≤t.length→j≤t.length→(bf t.reverse (bN T) (t.length-j) (t.length-i)↔bf t T i j)
  | .leaf n,hw,i,j,hi,hj=>by
    unfold bN
    unfold Tr.wk at hw
    rcases hw with h|h|h|h
    · have e:fu n=n:=by unfold fu;simp [h]
      rw [e]
      simp only [bf,if_pos h,List.length_reverse]
      constructor
      · rintro ⟨h1,h2,h3⟩
        obtain rfl:j=i+1:=by omega
        rw [GP oz] at h3
        exact ⟨by omega,rfl,h3⟩
      · rintro ⟨h1,rfl,h3⟩
        exact ⟨by omega,by omega,by rw [GP h1];exact h3⟩
    · have e:fu n=n:=by unfold fu;simp [h]
      rw [e]
      simp only [bf]
      rw [if_neg oz,if_pos h,if_neg oz,if_pos h]
      omega
    · have e:(fu n).kind=4:=by unfold fu;simp [h]
      simp only [bf,List.length_reverse]
      rw [if_neg oz,if_neg oz,if_neg oz,if_neg oz,if_neg oz,if_pos h]
      omega
    · have e:(fu n).kind=3:=by unfold fu;simp [h]
      simp only [bf,List.length_reverse]
      rw [if_neg oz,if_neg oz,if_pos e,if_neg oz,if_neg oz,if_neg oz]
      omega
  | .rep n a,hw,i,j,hi,hj=>by
    unfold bN
    simp only [bf]
    have:=fun k=>sF (n:=t.length) (F:=bf t a) (F':=bf t.reverse (bN a)) (fun i j h h9=>bf.lt h h9) (fun i j h h9=>by have:=bf.lt h (by simpa using h9);simpa using this) (fun i j h1 h2=>gT hw.2 h1 h2) (k:=k) hi hj
    constructor
    · rintro ⟨k,h1,h2,h3⟩;exact ⟨k,h1,h2,(this k).1 h3⟩
    · rintro ⟨k,h1,h2,h3⟩;exact ⟨k,h1,h2,(this k).2 h3⟩
  | .bin n a b,hw,i,j,hi,hj=>by
    unfold bN
    by_cases hk:n.kind=5
    · rw [if_pos hk]
      simp only [bf,if_pos hk]
      constructor
      · rintro ⟨m,h1,h2⟩
        have hm:m≤t.length:=by have:=bf.lt h1 (by simp);simpa using this
        have em:m=t.length-(t.length-m):=by omega
        rw [em] at h1 h2
        exact ⟨t.length-m,(gT hw.2.1 hi oz).1 h2,(gT hw.2.2 oz hj).1 h1⟩
      · rintro ⟨m,h1,h2⟩
        have hm:m≤t.length:=bf.lt h1 hi
        exact ⟨t.length-m,(gT hw.2.2 hm hj).2 h2,(gT hw.2.1 hi hm).2 h1⟩
    · rw [if_neg hk]
      simp only [bf,if_neg hk]
      exact or_congr (gT hw.2.1 hi hj) (gT hw.2.2 hi hj)
theorem nK.acc {s:ByteArray} {az a:Int} {p:l8} (h:nK s az p a 0):∃T:Tr,T.wk∧fM T∧T.flat=p.tree∧p.tree.length≤1000∧0<p.tree.length∧
    (aD p.fw=true∧aD p.se=true∧aD p.bk=true)∧∀t:List Nat,(∀x,x∈t→x<256)→∀i j,i≤j→j≤t.length→
    (fb p.fw (ft t i j)=true↔bf t T i j)∧(fb p.se (ft t i j)=true↔∃k,i≤k∧k≤j∧bf t T k j)∧(fb p.bk (ft t.reverse (t.length-j) (t.length-i))=true↔∃k,i≤k∧k≤j∧bf t T i k):=by
  obtain ⟨_,_,hm,_,T,hw,ho,hf,hl,h4⟩:=h.some
  obtain ⟨o1,o2,o3⟩:=h4.W3
  refine ⟨T,hw,ho,hf,by omega,by rw [←hf];exact dV T,⟨o1.right oz,o2.right oz,o3.right oz⟩,fun t hb i j cD hj=>?_⟩
  have hbr:∀x,x∈t.reverse→x<256:=fun x hx=>hb x (List.mem_reverse.1 hx)
  rw [fU (o1.right oz) (uq hb i j),fU (o2.right oz) (uq hb i j),fU (o3.right oz) (uq hbr _ _)]
  refine ⟨o1.fits oz hw hf hb cD hj,?_,?_⟩
  · exact (o2.fits oz (rR hw) (by rw [j8,hf]) hb cD hj).trans (Ik hb cD hj)
  · refine (o3.fits oz (rR (oM T hw)) (by rw [j8]) hbr oz (by simp)).trans ((Ik hbr oz (by simp)).trans ?_)
    constructor
    · rintro ⟨k,h1,h2,h3⟩
      have ek:k=t.length-(t.length-k):=by omega
      rw [ek] at h3
      exact ⟨t.length-k,by omega,by omega,(gT hw oz oz).1 h3⟩
    · rintro ⟨k,h1,h2,h3⟩
      exact ⟨t.length-k,by omega,by omega,(gT hw oz oz).2 h3⟩
def tZ (s:ByteArray) (i:Nat):ByteArray:=⟨((s.data.toList.take i).reverse).toArray⟩
def I5 (s:ByteArray):ByteArray:=⟨(s.data.toList.reverse).toArray⟩
theorem qz (s:ByteArray):s.data.toList.length=s.size:=by cases s;simp [ByteArray.size]
theorem I6 (s:ByteArray):(⟨#[]⟩:ByteArray)=tZ s 0:=by simp [tZ]
theorem yy (s:ByteArray) {i:Nat} (h:i≤s.size):(tZ s i).size=i:=by
  have:=qz s
  simp only [tZ,ByteArray.size,List.size_toArray,List.length_reverse,List.length_take]
  omega
theorem I7 {s:ByteArray} {i:Nat} (h:i<s.size):s.extract i (i+1)++tZ s i=tZ s (i+1):=by
  have hl:=qz s
  have e:∀a b:ByteArray,a.data.toList=b.data.toList→a=b:=fun a b h=>by cases a;cases b;congr;exact Array.toList_inj.1 h
  apply e
  have e1:(s.extract i (i+1)).data.toList=(s.data.toList.drop i).take 1:=by
    have:=congrArg List.length (rfl:s.data.toList=s.data.toList)
    simp [ByteArray.data_extract]
  have e2:(s.extract i (i+1)++tZ s i).data.toList=(s.extract i (i+1)).data.toList++(tZ s i).data.toList:=by simp [ByteArray.data_append]
  rw [e2,e1]
  simp only [tZ,List.toList_toArray]
  rw [show s.data.toList.take (i+1)=s.data.toList.take i++[s.data.toList[i]'oz] by rw [List.take_add_one,List.getElem?_eq_getElem oz];rfl,List.reverse_append,List.drop_eq_getElem_cons oz]
  simp
theorem BT (s:ByteArray):tZ s s.size=I5 s:=by
  unfold tZ I5
  rw [List.take_of_length_le (by rw [qz];exact Nat.le_refl _)]
theorem Sv (s:ByteArray):tN (I5 s)=(tN s).reverse:=by simp [tN,I5]
theorem I4 (s:ByteArray):(I5 s).size=s.size:=by rw [←BT];exact yy s (Nat.le_refl _)
theorem Iu {t:List Nat} {i j:Nat} (h:t.length=0):ft t i j=[258]:=by unfold ft;rw [if_pos h]
theorem x6 {t:List Nat} {i j:Nat} (h:t.length≠0):ft t i j=(if i=0 then [256] else [])++DB t i j++(if j=t.length then [257] else []):=by unfold ft;rw [if_neg h]
theorem It {s:ByteArray} {i k:Nat} {o:List Int} (ho:o=(if i=0 then [256] else [])++DB (tN s) i k) (OD:i≤k) (hk:k<s.size):o++[((bn s k:Nat):Int)]=(if i=0 then [256] else [])++DB (tN s) i (k+1):=by
  rw [Dz OD (by rw [bY];exact hk),Lc,←List.append_assoc,←ho]
theorem KO {t:List Nat} {i j:Nat} :((if i=0 then [256] else [])++DB t i j:List Int).length≤t.length+1:=by
  unfold DB
  split<;>simp<;>omega
def lE (F:Nat→Nat→Prop) (i k j:Nat):Prop:=∃q,i≤q∧q<k∧F q j
def lC (F:Nat→Nat→Prop) (i k:Nat):Prop:=∃q,i≤q∧q<k∧F i q
theorem lE.start {F:Nat→Nat→Prop} {i j:Nat} :false=true↔lE F i i j:=⟨fun h=>(by cases h),fun ⟨q,h1,h2,_⟩=>by omega⟩
theorem lC.start {F:Nat→Nat→Prop} {i:Nat} :false=true↔lC F i i:=⟨fun h=>(by cases h),fun ⟨q,h1,h2,_⟩=>by omega⟩
theorem lE.yes {F:Nat→Nat→Prop} {i k j:Nat} {b:Bool} (h:b=true↔lE F i k j) (hb:b=true):true=true↔lE F i (k+1) j:=⟨fun _=>by obtain ⟨q,h1,h2,h3⟩:=h.1 hb;exact ⟨q,h1,by omega,h3⟩,fun _=>rfl⟩
theorem lE.no {F:Nat→Nat→Prop} {i k j:Nat} {b c:Bool} (h:b=true↔lE F i k j) (hb:¬b=true) (hc:c=true↔F k j) (OD:i≤k):c=true↔lE F i (k+1) j:=by
  rw [hc]
  constructor
  · exact fun h9=>⟨k,OD,by omega,h9⟩
  · rintro ⟨q,h1,h2,h3⟩
    by_cases e:q=k
    · subst e;exact h3
    · exact absurd (h.2 ⟨q,h1,by omega,h3⟩) hb
theorem lC.yes {F:Nat→Nat→Prop} {i k:Nat} {b:Bool} (h:b=true↔lC F i k) (hb:b=true):true=true↔lC F i (k+1):=⟨fun _=>by obtain ⟨q,h1,h2,h3⟩:=h.1 hb;exact ⟨q,h1,by omega,h3⟩,fun _=>rfl⟩
theorem lC.no {F:Nat→Nat→Prop} {i k:Nat} {b c:Bool} (h:b=true↔lC F i k) (hb:¬b=true) (hc:c=true↔F i k) (OD:i≤k):c=true↔lC F i (k+1):=by
  rw [hc]
  constructor
  · exact fun h9=>⟨k,OD,by omega,h9⟩
  · rintro ⟨q,h1,h2,h3⟩
    by_cases e:q=k
    · subst e;exact h3
    · exact absurd (h.2 ⟨q,h1,by omega,h3⟩) hb
theorem lE.fin {F:Nat→Nat→Prop} {i j:Nat} :lE F i (j+1) j↔∃k,i≤k∧k≤j∧F k j:=⟨fun ⟨q,h1,h2,h3⟩=>⟨q,h1,by omega,h3⟩,fun ⟨q,h1,h2,h3⟩=>⟨q,h1,by omega,h3⟩⟩
theorem lC.fin {F:Nat→Nat→Prop} {i j:Nat} :lC F i (j+1)↔∃k,i≤k∧k≤j∧F i k:=⟨fun ⟨q,h1,h2,h3⟩=>⟨q,h1,by omega,h3⟩,fun ⟨q,h1,h2,h3⟩=>⟨q,h1,by omega,h3⟩⟩
open Go.ChangeShapes Go.WideShapes Go.ChangeAt Go.RowKit
section
variable {H:Type} {enc:TypeId×Value→H} {P:Program} {W:World} {α β:Type} {t e:TypeId}
theorem N9 {w w':World} (h:ax w [] w' []):RowKit.Below w.heap.size w w':=(ax.keep h).below
end
end Go.Sx
namespace Go.Proofs.YtpbgmkhmdbchpaaGreatDoor
open Go Go.Sx
theorem Wn:bX Tryz.prog 2=some (1,8,some (.int .i64 0)):=by kernel_rfl
theorem xv:bX Tryz.prog 3=some (1,8,some (.int .i64 0)):=by kernel_rfl
theorem Wl:bX Tryz.prog 4=some (1,1,some (.bool false)):=by kernel_rfl
theorem sz5:bX Tryz.prog 5=some (1,1,some (.int .u8 0)):=by kernel_rfl
theorem Ej:bX Tryz.prog 25=some (1,24,some (.slice none 0 0)):=by kernel_rfl
theorem aa8:bX Tryz.prog 26=some (1,24,some (.slice none 0 0)):=by kernel_rfl
theorem kc:bX Tryz.prog 85=some (1,8,some (.int .u64 0)):=by kernel_rfl
theorem Sw:bX Tryz.prog 87=some (4,32,some (.agg #[.int .u64 0,.int .u64 0,.int .u64 0,.int .u64 0])):=by kernel_rfl
theorem Ld:bX Tryz.prog 89=some (7,56,some (.agg #[.int .i64 0,.int .u64 0,.int .u64 0,.int .u64 0,.int .u64 0,.int .i64 0,.int .i64 0])):=by kernel_rfl
theorem Rf:bX Tryz.prog 142=some (2,16,some (.agg #[.int .i64 0,.int .i64 0])):=by kernel_rfl
theorem Wm:bX Tryz.prog 249=some (2,16,some (.agg #[.int .i64 0,.int .i64 0])):=by kernel_rfl
theorem abC:fQ Tryz.prog 75:=qy Tryz.func75 dk rfl
theorem W8:fQ Tryz.prog 132:=qy Tryz.func132 dk rfl
theorem W7:fQ Tryz.prog 161:=qy Tryz.func161 dk rfl
theorem W6:fQ Tryz.prog 173:=qy Tryz.func173 dk rfl
theorem G6:fQ Tryz.prog 195:=qy Tryz.func195 dk rfl
theorem W5:fQ Tryz.prog 198:=qy Tryz.func198 dk rfl
theorem mixed:Tryz.prog.follows .mixedOrders=true:=by kernel_rfl
end Go.Proofs.YtpbgmkhmdbchpaaGreatDoor
namespace Go.Sx
theorem iA {p:Prop} (h:p:=by kernel_rfl):p:=h
end Go.Sx
namespace Go.Proofs.YtpbgmkhmdbchpaaGreatDoor
open Go Go.Sx
noncomputable instance tbI:Tb Tryz.prog where
  u:=[(3,.int .i64),(4,.bool),(5,.int .u8),(9,.string),(24,.slice 89),(25,.slice 3),(26,.slice 4),(28,.struct (Tryz.prog.fieldsOf 28)),(30,.struct (Tryz.prog.fieldsOf 30)),(31,.int .i64),(38,.slice 26),(39,.slice 26),(85,.int .u64),(87,.array 4 85),(89,.struct (Tryz.prog.fieldsOf 89)),(102,.slice 131),(114,.pointer 28),(115,.struct (Tryz.prog.fieldsOf 115)),(116,.slice 115),(131,.struct (Tryz.prog.fieldsOf 131)),(140,.pointer 145),(142,.struct (Tryz.prog.fieldsOf 142)),(143,.slice 142),(145,.struct (Tryz.prog.fieldsOf 145)),(147,.pointer 149),(149,.struct (Tryz.prog.fieldsOf 149)),(151,.slice 193),(153,.struct (Tryz.prog.fieldsOf 153)),(165,.int .u64),(168,.struct (Tryz.prog.fieldsOf 168)),(177,.struct (Tryz.prog.fieldsOf 177)),(187,.pointer 189),(189,.struct (Tryz.prog.fieldsOf 189)),(193,.struct (Tryz.prog.fieldsOf 193)),(196,.pointer 200),(197,.map 9 3),(198,.slice 25),(200,.struct (Tryz.prog.fieldsOf 200)),(232,.slice 5),(242,.pointer 247),(244,.slice 198),(245,.slice 249),(247,.struct (Tryz.prog.fieldsOf 247)),(249,.struct (Tryz.prog.fieldsOf 249)),(254,.map 256 3),(256,.struct (Tryz.prog.fieldsOf 256)),(258,.map 3 3),(277,.map 3 25),(281,.array 64 5),(285,.slice 289),(287,.slice 303),(289,.struct (Tryz.prog.fieldsOf 289)),(303,.struct (Tryz.prog.fieldsOf 303))]
  hu:=by kernel_rfl
  s:=[(3,1,8,.int .i64 0),(4,1,1,.bool false),(5,1,1,.int .u8 0),(9,1,16,.string ⟨#[]⟩),(24,1,24,.slice none 0 0),(25,1,24,.slice none 0 0),(26,1,24,.slice none 0 0),(28,5,88,.agg #[.slice none 0 0,.int .i64 0,.int .i64 0,.slice none 0 0,.slice none 0 0]),(30,16,288,.agg #[.slice none 0 0,.slice none 0 0,.int .i64 0,.int .i64 0,.slice none 0 0,.slice none 0 0,.slice none 0 0,.int .i64 0,.int .i64 0,.slice none 0 0,.slice none 0 0,.slice none 0 0,.int .i64 0,.int .i64 0,.slice none 0 0,.slice none 0 0]),(31,1,8,.int .i64 0),(38,1,24,.slice none 0 0),(39,1,24,.slice none 0 0),(85,1,8,.int .u64 0),(87,4,32,.agg #[.int .u64 0,.int .u64 0,.int .u64 0,.int .u64 0]),(89,7,56,.agg #[.int .i64 0,.int .u64 0,.int .u64 0,.int .u64 0,.int .u64 0,.int .i64 0,.int .i64 0]),(102,1,24,.slice none 0 0),(114,1,8,.pointer none),(115,2,32,.agg #[.slice none 0 0,.pointer none]),(116,1,24,.slice none 0 0),(131,8,64,.agg #[.int .i64 0,.int .i64 0,.int .u64 0,.int .u64 0,.int .u64 0,.int .u64 0,.int .i64 0,.int .i64 0]),(140,1,8,.pointer none),(142,2,16,.agg #[.int .i64 0,.int .i64 0]),(143,1,24,.slice none 0 0),(145,3,56,.agg #[.slice none 0 0,.slice none 0 0,.bool false]),(147,1,8,.pointer none),(149,2,48,.agg #[.slice none 0 0,.slice none 0 0]),(151,1,24,.slice none 0 0),(153,3,40,.agg #[.slice none 0 0,.int .i64 0,.int .i64 0]),(165,1,8,.int .u64 0),(168,7,48,.agg #[.int .u64 0,.int .u64 0,.int .u64 0,.int .u64 0,.int .i64 0,.bool false,.bool false]),(177,6,48,.agg #[.int .u64 0,.int .u64 0,.int .u64 0,.int .u64 0,.int .i64 0,.int .i64 0]),(187,1,8,.pointer none),(189,2,48,.agg #[.slice none 0 0,.slice none 0 0]),(193,7,56,.agg #[.int .i64 0,.int .i64 0,.int .i64 0,.int .u64 0,.int .u64 0,.int .u64 0,.int .u64 0]),(196,1,8,.pointer none),(197,1,8,.map none),(198,1,24,.slice none 0 0),(200,6,80,.agg #[.slice none 0 0,.int .i64 0,.int .i64 0,.int .i64 0,.slice none 0 0,.map none]),(232,1,24,.slice none 0 0),(242,1,8,.pointer none),(244,1,24,.slice none 0 0),(245,1,24,.slice none 0 0),(247,5,120,.agg #[.slice none 0 0,.slice none 0 0,.slice none 0 0,.slice none 0 0,.slice none 0 0]),(249,2,16,.agg #[.int .i64 0,.int .i64 0]),(254,1,8,.map none),(256,2,16,.agg #[.int .i64 0,.int .i64 0]),(258,1,8,.map none),(277,1,8,.map none),(281,64,64,.agg #[.int .u8 0,.int .u8 0,.int .u8 0,.int .u8 0,.int .u8 0,.int .u8 0,.int .u8 0,.int .u8 0,.int .u8 0,.int .u8 0,.int .u8 0,.int .u8 0,.int .u8 0,.int .u8 0,.int .u8 0,.int .u8 0,.int .u8 0,.int .u8 0,.int .u8 0,.int .u8 0,.int .u8 0,.int .u8 0,.int .u8 0,.int .u8 0,.int .u8 0,.int .u8 0,.int .u8 0,.int .u8 0,.int .u8 0,.int .u8 0,.int .u8 0,.int .u8 0,.int .u8 0,.int .u8 0,.int .u8 0,.int .u8 0,.int .u8 0,.int .u8 0,.int .u8 0,.int .u8 0,.int .u8 0,.int .u8 0,.int .u8 0,.int .u8 0,.int .u8 0,.int .u8 0,.int .u8 0,.int .u8 0,.int .u8 0,.int .u8 0,.int .u8 0,.int .u8 0,.int .u8 0,.int .u8 0,.int .u8 0,.int .u8 0,.int .u8 0,.int .u8 0,.int .u8 0,.int .u8 0,.int .u8 0,.int .u8 0,.int .u8 0,.int .u8 0]),(285,1,24,.slice none 0 0),(287,1,24,.slice none 0 0),(289,2,40,.agg #[.string ⟨#[]⟩,.slice none 0 0]),(303,2,2,.agg #[.int .u8 0,.int .u8 0])]
  hs:=by kernel_rfl
  f:=[(28,0,0,1,false),(28,1,1,1,false),(28,2,2,1,false),(28,3,3,1,false),(28,4,4,1,false),(30,0,0,1,false),(30,1,1,5,true),(30,2,6,5,true),(30,3,11,5,true),(89,0,0,1,false),(89,1,1,4,true),(89,2,5,1,false),(89,3,6,1,false),(115,0,0,1,false),(115,1,1,1,false),(131,0,0,1,false),(131,1,1,1,false),(131,2,2,4,true),(131,3,6,1,false),(131,4,7,1,false),(142,0,0,1,false),(142,1,1,1,false),(145,0,0,1,false),(145,1,1,1,false),(145,2,2,1,false),(149,0,0,1,false),(149,1,1,1,false),(153,0,0,1,false),(153,1,1,1,false),(153,2,2,1,false),(168,0,0,4,true),(168,1,4,1,false),(168,2,5,1,false),(168,3,6,1,false),(177,0,0,4,true),(177,1,4,1,false),(177,2,5,1,false),(189,0,0,1,false),(189,1,1,1,false),(193,0,0,1,false),(193,1,1,1,false),(193,2,2,1,false),(193,3,3,4,true),(200,0,0,3,true),(200,1,3,1,false),(200,2,4,1,false),(200,3,5,1,false),(247,0,0,1,false),(247,1,1,1,false),(247,2,2,1,false),(247,3,3,1,false),(247,4,4,1,false),(249,0,0,1,false),(249,1,1,1,false),(256,0,0,1,false),(256,1,1,1,false),(289,0,0,1,false),(289,1,1,1,false),(303,0,0,1,false),(303,1,1,1,false)]
  hf:=by kernel_rfl
  c:=[9,10,11,14,15,16,17,18,20,32,33,34,35,36,40,41,42,43,44,49,50,51,52,53,54,55,56,57,58,59,64,65,66,67,68,69,70,71,72,73,74,76,77,78,79,80,81,82,83,84,85,86,90,91,92,93,94,95,96,97,98,99,100,101,102,103,104,105,106,107,108,109,110,111,112,113,114,115,116,117,118,131,133,134,135,136,137,138,139,140,141,142,143,144,145,146,147,148,149,150,151,152,153,154,155,156,157,158,159,160,166,167,168,169,170,171,172,174,175,176,177,178,179,180,181,182,183,184,185,186,187,188,190,191,192,193,194,196,197,203,204]
  hc:=QD iA
  mx:=by kernel_rfl
theorem Pf (x:BitVec 64) (y:BitVec 64) (w:World):
 Calls Tryz.prog 173 #[aj x,aj y] w (aX fun v w'=>v=aj (x|||y)∧ax w [] w' []):=by
 refine cH Tryz.func173 (h:=fun H0=>?_)
 exact aN 9 rfl (AI (a:=x) (b:=y) rfl rfl (bE 4 (h:=⟨rfl,H0.af⟩)))
theorem L6 (x:BitVec 64) (y:BitVec 64) (w:World):
 Calls Tryz.prog 75 #[aj x,aj y] w (aX fun v w'=>v=aj (~~~x)∧ax w [] w' []):=by
 refine cH Tryz.func75 (h:=fun H0=>?_)
 exact aN 8 rfl (Qv (a:=x) rfl (bE 4 (h:=⟨rfl,H0.af⟩)))
theorem FP (a:Bs) (b:Bs) (w:World):
 Calls Tryz.prog 74 #[.agg #[aj a.w0,aj a.w1,aj a.w2,aj a.w3],.agg #[aj b.w0,aj b.w1,aj b.w2,aj b.w3],.func (.func 173) #[] #[]] w (aX fun v w'=>v= .agg #[aj (qV a b).w0,aj (qV a b).w1,aj (qV a b).w2,aj (qV a b).w3]∧ax w [] w' []):=by
 refine cH Tryz.func74 (h:=fun H0=>ab 2 (h:=jf H0 (k:=fun w1 H1=>ab 0 (h:=jf H1 (k:=fun w2 H2=>ab 0 (h:=dB H2 (k:=fun w3 H3=>dA 9 [8,6,4,3,2] (fun B R L m e v=>∃k,∃r:Bs,e=(8,b7 k)::B∧av w L v ([aQ w.heap.size #[aj r.w0,aj r.w1,aj r.w2,aj r.w3] 87]::R)∧(k≤4)∧(∀j,j<4→r.get j=if j<k then (fun p q=>p|||q) (a.get j) (b.get j) else a.get j)∧m=4-k) (i:=⟨0,a,rfl,H3,om,(by intro j hj;rw [if_neg oz]),rfl⟩) (h:=?_))))))))
 rintro m1 Γ1 w4 ⟨k,r,rfl,H4,hk,hr,rfl⟩
 refine aC 6 (fun NT=>?_) fun NT=>?_
 refine fI 10 H4 (h:=fun w5 H5=>?_)
 refine nJ 3 3 ⟨_,_,_,rfl,rfl,rfl,rfl,rfl,rfl⟩ (fun _=>fz (j:=k) Tryz.underlying87 kc rfl rfl oz ⟨rfl,rfl⟩) ?_
 refine K3 0 4 (H5.b 0) ⟨_,_,_,rfl,rfl,rfl,rfl,rfl,rfl⟩ (fun _ hC=>ig r Tryz.underlying85 rfl rfl hC oz ⟨rfl,rfl⟩) ?_
 refine nJ 1 6 ⟨_,_,_,rfl,rfl,rfl,rfl,rfl,rfl⟩ (fun _=>fz (j:=k) Tryz.underlying87 kc rfl rfl oz ⟨rfl,rfl⟩) ?_
 refine K3 0 7 (H5.b 1) ⟨_,_,_,rfl,rfl,rfl,rfl,rfl,rfl⟩ (fun _ hC=>ig b Tryz.underlying85 rfl rfl hC oz ⟨rfl,rfl⟩) ?_
 refine uR 0 8 ⟨_,_,_,rfl,rfl,rfl,rfl,rfl,rfl⟩ (jO W6 rfl rfl (aX.calls (Pf (r.get k) (b.get k) w5) fun _ w6 p1=>?_))
 obtain ⟨rfl,u4⟩:=p1
 have H6:=H5.call u4
 refine ⟨⟨trivial,trivial⟩,?_⟩
 refine nJ 0 9 ⟨_,_,_,rfl,rfl,rfl,rfl,rfl,rfl⟩ (fun _=>fz (j:=k) Tryz.underlying87 kc rfl rfl oz ⟨rfl,rfl⟩) ?_
 refine uR 0 10 ⟨_,_,_,rfl,rfl,rfl,rfl,rfl,rfl⟩ (l5 r ((r.get k)|||(b.get k)) kc rfl rfl (H6.b 0) oz fun w7 u5=>?_)
 have H7:=H6.un 0 u5
 refine ⟨trivial,?_⟩
 exact ab 4 (h:=aV (k:=cm 2 (h:=by exact ⟨k+1,(r.put k ((r.get k)|||(b.get k))),rfl,H7,om,(by exact y7 (F:=fun p q=>p|||q) (b:=b) oz hr),rfl⟩)))
 refine ab 4 (h:=cd (H4.b 0) (k:=aY 0 (h:=bL H4 2 (k:=fun w8 H8=>pO 3 (h1:=cS (H8.b 2)) (h:=?_)))))
 have e:=y8 (F:=fun p q=>p|||q) (a:=a) (b:=b) (q:=qV a b) oz hr (fun j hj=>G3 a b hj)
 exact ⟨(by rw [e]),H8.af⟩
theorem Dh (a:Bs) (b:Bs) (w:World):
 Calls Tryz.prog 74 #[.agg #[aj a.w0,aj a.w1,aj a.w2,aj a.w3],.agg #[aj b.w0,aj b.w1,aj b.w2,aj b.w3],.func (.func 75) #[] #[]] w (aX fun v w'=>v= .agg #[aj (fF a).w0,aj (fF a).w1,aj (fF a).w2,aj (fF a).w3]∧ax w [] w' []):=by
 refine cH Tryz.func74 (h:=fun H0=>ab 2 (h:=jf H0 (k:=fun w1 H1=>ab 0 (h:=jf H1 (k:=fun w2 H2=>ab 0 (h:=dB H2 (k:=fun w3 H3=>dA 9 [8,6,4,3,2] (fun B R L m e v=>∃k,∃r:Bs,e=(8,b7 k)::B∧av w L v ([aQ w.heap.size #[aj r.w0,aj r.w1,aj r.w2,aj r.w3] 87]::R)∧(k≤4)∧(∀j,j<4→r.get j=if j<k then (fun p _=> ~~~p) (a.get j) (b.get j) else a.get j)∧m=4-k) (i:=⟨0,a,rfl,H3,om,(by intro j hj;rw [if_neg oz]),rfl⟩) (h:=?_))))))))
 rintro m1 Γ1 w4 ⟨k,r,rfl,H4,hk,hr,rfl⟩
 refine aC 6 (fun NT=>?_) fun NT=>?_
 refine fI 10 H4 (h:=fun w5 H5=>?_)
 refine nJ 3 3 ⟨_,_,_,rfl,rfl,rfl,rfl,rfl,rfl⟩ (fun _=>fz (j:=k) Tryz.underlying87 kc rfl rfl oz ⟨rfl,rfl⟩) ?_
 refine K3 0 4 (H5.b 0) ⟨_,_,_,rfl,rfl,rfl,rfl,rfl,rfl⟩ (fun _ hC=>ig r Tryz.underlying85 rfl rfl hC oz ⟨rfl,rfl⟩) ?_
 refine nJ 1 6 ⟨_,_,_,rfl,rfl,rfl,rfl,rfl,rfl⟩ (fun _=>fz (j:=k) Tryz.underlying87 kc rfl rfl oz ⟨rfl,rfl⟩) ?_
 refine K3 0 7 (H5.b 1) ⟨_,_,_,rfl,rfl,rfl,rfl,rfl,rfl⟩ (fun _ hC=>ig b Tryz.underlying85 rfl rfl hC oz ⟨rfl,rfl⟩) ?_
 refine uR 0 8 ⟨_,_,_,rfl,rfl,rfl,rfl,rfl,rfl⟩ (jO abC rfl rfl (aX.calls (L6 (r.get k) (b.get k) w5) fun _ w6 p1=>?_))
 obtain ⟨rfl,u4⟩:=p1
 have H6:=H5.call u4
 refine ⟨⟨trivial,trivial⟩,?_⟩
 refine nJ 0 9 ⟨_,_,_,rfl,rfl,rfl,rfl,rfl,rfl⟩ (fun _=>fz (j:=k) Tryz.underlying87 kc rfl rfl oz ⟨rfl,rfl⟩) ?_
 refine uR 0 10 ⟨_,_,_,rfl,rfl,rfl,rfl,rfl,rfl⟩ (l5 r (~~~(r.get k)) kc rfl rfl (H6.b 0) oz fun w7 u5=>?_)
 have H7:=H6.un 0 u5
 refine ⟨trivial,?_⟩
 exact ab 4 (h:=aV (k:=cm 2 (h:=by exact ⟨k+1,(r.put k (~~~(r.get k))),rfl,H7,om,(by exact y7 (F:=fun p _=> ~~~p) (b:=b) oz hr),rfl⟩)))
 refine ab 4 (h:=cd (H4.b 0) (k:=aY 0 (h:=bL H4 2 (k:=fun w8 H8=>pO 3 (h1:=cS (H8.b 2)) (h:=?_)))))
 have e:=y8 (F:=fun p _=> ~~~p) (a:=a) (b:=b) (q:=fF a) oz hr (fun j hj=>Cw a hj)
 exact ⟨(by rw [e]),H8.af⟩
theorem zM (a:Bs) (b:Bs) (w:World):
 Calls Tryz.prog 142 #[.agg #[aj a.w0,aj a.w1,aj a.w2,aj a.w3],.agg #[aj b.w0,aj b.w1,aj b.w2,aj b.w3]] w (aX fun v w'=>v= .agg #[aj (qV a b).w0,aj (qV a b).w1,aj (qV a b).w2,aj (qV a b).w3]∧ax w [] w' []):=by
 refine cH Tryz.func142 (h:=fun H0=>ab 2 (h:=jf H0 (k:=fun w1 H1=>ab 0 (h:=jf H1 (k:=fun w2 H2=>ab 0 (h:=dB H2 (k:=fun w3 H3=>ab 4 (h:=cd (H3.b 0) (k:=ab 0 (h:=cd (H3.b 1) (k:=ab 0 (h:=aA (c:=FP a b w3) (k:=?_)))))))))))))
 rintro _ w4 ⟨rfl,u4⟩
 have H4:=H3.call u4
 exact aY 0 (h:=bL H4 2 (k:=fun w5 H5=>pO 3 (h1:=cS (H5.b 2)) (h:=⟨rfl,H5.af⟩)))
theorem oX (a:Bs) (w:World):
 Calls Tryz.prog 44 #[.agg #[aj a.w0,aj a.w1,aj a.w2,aj a.w3]] w (aX fun v w'=>v= .agg #[aj (fF a).w0,aj (fF a).w1,aj (fF a).w2,aj (fF a).w3]∧ax w [] w' []):=by
 refine cH Tryz.func44 (h:=fun H0=>ab 2 (h:=jf H0 (k:=fun w1 H1=>ab 0 (h:=dB H1 (k:=fun w2 H2=>ab 4 (h:=cd (H2.b 0) (k:=ab 0 (h:=cd (H2.b 0) (k:=ab 0 (h:=aA (c:=Dh a a w2) (k:=?_)))))))))))
 rintro _ w3 ⟨rfl,u3⟩
 have H3:=H2.call u3
 exact aY 0 (h:=bL H3 1 (k:=fun w4 H4=>pO 3 (h1:=cS (H4.b 1)) (h:=⟨rfl,H4.af⟩)))
theorem mD (ba:aP) (b:List Nat) (bc:Nat) (bn:Nat) (w:World) (rb:bz eM w (.slice ba bn bc) b) (hb:∀c,c∈b→c<256):
 Calls Tryz.prog 100 #[.slice ba bn bc] w (aX fun v w'=>v= .agg #[aj (fZ b).w0,aj (fZ b).w1,aj (fZ b).w2,aj (fZ b).w3]∧ax w [] w' []):=by
 obtain rfl:bn=b.length:=rb.len
 have Rz:=rb.le
 refine cH Tryz.func100 (h:=fun H0=>ab 2 (h:=dB H0 (k:=fun w1 H1=>ab 4 (h:=dB H1 (k:=fun w2 H2=>?_)))))
 have H3:=H2.ps [1,0]
 refine dA 11 [8,7,6,3,2] (fun B R L m e v=>∃k,∃r:Bs,e=(8,b7 k)::B∧av w L v ([aQ w1.heap.size #[aj r.w0,aj r.w1,aj r.w2,aj r.w3] 87]::R)∧(k≤b.length)∧(r=(b.take k).foldl jy Bs.zero)∧m=b.length-k) (i:=⟨0,Bs.zero,rfl,H3,om,rfl,rfl⟩) (h:=?_)
 rintro m1 Γ1 w3 ⟨k,r,rfl,H4,hk,hr,rfl⟩
 refine aC 6 (fun c13=>?_) fun c13=>?_
 refine ab 6 (h:=cg k (rb.at H4) (k:=ab 0 (h:=cI (rb.at H4) (k:=?_))))
 have hc:=hb _ (ak (d:=0) (show k<b.length by omega))
 refine aN 5 rfl (FQ (m:=b.getD k 0) dk rfl rfl ?_)
 refine aN 0 rfl (fz (j:=((b.getD k 0)/64)) Tryz.underlying87 kc rfl rfl oz ?_)
 refine aN 0 rfl (ig r Tryz.underlying85 rfl rfl (H4.b 0) oz ?_)
 refine aN 1 rfl (AK (m:=b.getD k 0) oz dk rfl rfl ?_)
 refine aN 0 rfl (AH (a:=1#64) (n:=(b.getD k 0)%64) rfl rfl oz ?_)
 refine aN 0 rfl (AI (a:=r.get ((b.getD k 0)/64)) (b:=(1#64)<<<((b.getD k 0)%64)) rfl rfl ?_)
 refine aN 0 rfl (fz (j:=((b.getD k 0)/64)) Tryz.underlying87 kc rfl rfl oz ?_)
 refine zO 0 rfl (l5 r ((r.get ((b.getD k 0)/64))|||((1#64)<<<((b.getD k 0)%64))) kc rfl rfl (H4.b 0) oz fun w4 u3=>?_)
 have H5:=H4.un 0 u3
 exact ab 4 (h:=aV (k:=cm 2 (h:=by exact ⟨k+1,(r.put ((b.getD k 0)/64) ((r.get ((b.getD k 0)/64))|||((1#64)<<<((b.getD k 0)%64)))),rfl,H5,om,(by rw [Eh oz,←hr];rfl),rfl⟩)))
 refine ab 4 (h:=cd (H4.b 0) (k:=aY 0 (h:=bL H4 1 (k:=fun w5 H6=>pO 3 (h1:=cS (H6.b 1)) (h:=?_)))))
 have e:r=fZ b:=by rw [hr,List.take_of_length_le oz];rfl
 exact ⟨(by rw [e]),H6.af⟩
theorem HD (s:Bs) (b:Nat) (w:World) (hb:b<256):
 Calls Tryz.prog 175 #[.agg #[aj s.w0,aj s.w1,aj s.w2,aj s.w3],.int .u8 ((b:Nat):Int)] w (aX fun v w'=>v= .bool (s.has b)∧ax w [] w' []):=by
 refine cH Tryz.func175 (h:=fun H0=>ab 2 (h:=jf H0 (k:=fun w1 H1=>?_)))
 refine aN 6 rfl (FQ (m:=b) dk rfl rfl ?_)
 refine aN 0 rfl (fz (j:=(b/64)) Tryz.underlying87 kc rfl rfl oz ?_)
 refine aN 0 rfl (ig s Tryz.underlying85 rfl rfl (H1.b 0) oz ?_)
 refine aN 1 rfl (AK (m:=b) oz dk rfl rfl ?_)
 refine aN 0 rfl (AG (a:=s.get (b/64)) (n:=b%64) rfl rfl oz ?_)
 refine aN 0 rfl (uM (a:=(s.get (b/64))>>>(b%64)) (b:=1#64) rfl rfl ?_)
 exact aN 0 rfl (FV (a:=((s.get (b/64))>>>(b%64))&&&(1#64)) (b:=1#64) rfl rfl (bE 4 (h:=⟨(by rw [HB]),H1.af⟩)))
theorem lQ (s:Bs) (b:Nat) (w:World) (hb:b<256):
 Calls Tryz.prog 65 #[.agg #[aj s.w0,aj s.w1,aj s.w2,aj s.w3],b7 b] w (aX fun v w'=>v= .bool (s.has b)∧ax w [] w' []):=by
 refine cH Tryz.func65 (h:=fun H0=>ab 2 (h:=jf H0 (k:=fun w1 H1=>?_)))
 refine aN 6 rfl (Nq rfl rfl oz oz oz ?_)
 refine aN 0 rfl (fz (j:=(b/64)) Tryz.underlying87 kc rfl rfl oz ?_)
 refine aN 0 rfl (ig s Tryz.underlying85 rfl rfl (H1.b 0) oz ?_)
 refine aN 1 rfl (Np rfl rfl oz oz (ab 0 (h:=jd (k:=?_))))
 refine aN 0 rfl (AG (a:=s.get (b/64)) (n:=b%64) rfl rfl oz ?_)
 refine aN 0 rfl (uM (a:=(s.get (b/64))>>>(b%64)) (b:=1#64) rfl rfl ?_)
 exact aN 0 rfl (FV (a:=((s.get (b/64))>>>(b%64))&&&(1#64)) (b:=1#64) rfl rfl (bE 4 (h:=⟨(by rw [HB]),H1.af⟩)))
theorem n6 (s:Bs) (bI:Int) (b:Nat) (w:World) (e_b:bI=((b:Nat):Int)) (hb:b<256):
 Calls Tryz.prog 118 #[.agg #[aj s.w0,aj s.w1,aj s.w2,aj s.w3],ai bI] w (aX fun v w'=>v= .agg #[aj (jy s b).w0,aj (jy s b).w1,aj (jy s b).w2,aj (jy s b).w3]∧ax w [] w' []):=by
 subst e_b
 refine cH Tryz.func118 (h:=fun H0=>ab 2 (h:=jf H0 (k:=fun w1 H1=>ab 0 (h:=dB H1 (k:=fun w2 H2=>?_)))))
 refine aN 5 rfl (Nq rfl rfl oz oz oz ?_)
 refine aN 1 rfl (Nq rfl rfl oz oz oz ?_)
 refine aN 0 rfl (fz (j:=(b/64)) Tryz.underlying87 kc rfl rfl oz ?_)
 refine aN 0 rfl (ig s Tryz.underlying85 rfl rfl (H2.b 0) oz ?_)
 refine aN 1 rfl (Np rfl rfl oz oz (ab 0 (h:=jd (k:=?_))))
 refine aN 0 rfl (AH (a:=1#64) (n:=b%64) rfl rfl oz ?_)
 refine aN 0 rfl (AI (a:=s.get (b/64)) (b:=(1#64)<<<(b%64)) rfl rfl ?_)
 refine aN 0 rfl (fz (j:=(b/64)) Tryz.underlying87 kc rfl rfl oz ?_)
 refine zO 0 rfl (l5 s ((s.get (b/64))|||((1#64)<<<(b%64))) kc rfl rfl (H2.b 0) oz fun w3 u3=>?_)
 have H3:=H2.un 0 u3
 exact ab 4 (h:=cd (H3.b 0) (k:=aY 0 (h:=bL H3 1 (k:=fun w4 H4=>pO 3 (h1:=cS (H4.b 1)) (h:=⟨rfl,H4.af⟩)))))
theorem Qy (x:BitVec 64) (w:World) (rT:cP eM w (some ⟨0,0,none⟩) qu 64):
 Calls Tryz.prog 176 #[aj x] w (aX fun v w'=>v=b7 (ctz x)∧ax w [] w' []):=by
 have jC:=rT.le
 refine cH Tryz.func176 (h:=fun H0=>?_)
 refine aN 9 rfl (FV (a:=x) (b:=0#64) rfl rfl (aC 2 (fun c91=>?_) fun c91=>?_))
 exact bE 6 (h:=⟨(by rw [show ctz x=64 from if_pos c91];rfl),H0.af⟩)
 refine aN 6 rfl (Qt (a:=x) rfl ?_)
 refine aN 0 rfl (uM (a:=x) (b:= -x) rfl rfl ?_)
 refine aN 0 rfl (Qu (a:=x&&&(-x)) (b:=285870213051353865#64) rfl rfl ?_)
 refine aN 0 rfl (AG (a:=(x&&&(-x))*(285870213051353865#64)) (n:=58) rfl rfl (by first|omega|exact NK (Nat.lt_trans (Ni _) (by decide))) ?_)
 exact aN 0 rfl (Ut (n:=qu.length) (c:=64) (j:=((((x&&&(-x))*(285870213051353865#64))>>>58).toNat)) Tryz.underlying281 sz5 rfl (by first|exact GI _|(rw [uL];exact GI _)) (ab 0 (h:=cI (rT.at H0) (hj:=(by first|exact GI _|(rw [uL];exact GI _))) (k:=ab 0 (h:=jd (h:=(by first|omega|exact NK (Nat.lt_trans (Ni _) (by decide)))) (k:=bE 4 (h:=⟨(by rw [show ctz x=_ from if_neg c91]),H0.af⟩)))))))
theorem zd (s:Bs) (w:World) (rT:cP eM w (some ⟨0,0,none⟩) qu 64):
 Calls Tryz.prog 146 #[.agg #[aj s.w0,aj s.w1,aj s.w2,aj s.w3]] w (aX fun v w'=>∃a2,∃c2:Nat,v=aH a2 (bj s) c2∧ax w [] w' [cE eM 5 a2 (bj s) c2]):=by
 have jC:=rT.le
 refine cH Tryz.func146 (h:=fun H0=>ab 2 (h:=jf H0 (k:=fun w1 H1=>ab 11 (h:=cd (H1.b 0) (k:=?_)))))
 have H2:=H1.nr eM 5
 have H3:=H2.ps [1,0]
 refine dA 4 [7,3,6,2] (fun B R L m e v=>∃k,∃o:List Nat,∃a c,e=(7,b7 k)::(3,aH a o c)::B∧av w L v ([cE eM 5 a o c]::R)∧(k≤4)∧(o=AY s k)∧m=4-k) (i:=⟨0,([]:List Nat),none,0,rfl,H3,om,rfl,rfl⟩) (h:=?_)
 rintro m1 Γ1 w2 ⟨k,o,a,c,rfl,H4,hk,ho,rfl⟩
 refine aC 6 (fun D9=>?_) fun D9=>?_
 refine aN 7 rfl (Nz (j:=k) s Tryz.underlying87 Tryz.underlying85 rfl kc rfl rfl oz (dA 5 [5,3,4,7,6,2] (fun B R L m e v=>∃x:BitVec 64,∃o2:List Nat,∃a3 c3,e=(5,aj x)::(3,aH a3 o2 c3)::B∧av w L v ([cE eM 5 a3 o2 c3]::R)∧(o2++(k8 x).map (fun b=>k*64+b)=AY s (k+1))∧m=x.toNat) (i:=⟨s.get k,o,a,c,rfl,H4,(by rw [ho];exact (zf s k).symm),rfl⟩) (h:=?_)))
 rintro m2 Γ2 w3 ⟨x,o2,a3,c3,rfl,H5,hx,rfl⟩
 refine aN 4 rfl (Uv (a:=x) (b:=0#64) rfl rfl (aC 2 (fun QG=>?_) fun QG=>?_))
 have hz:=Uw QG
 have tC:=congrArg List.length hx
 have Hu:=DC s (k+1)
 simp only [List.length_append,List.length_map] at tC
 refine ab 7 (h:=Ha (k:=ab 1 (h:=aA (c:=Qy x w3 (rT.at H5)) (k:=?_))))
 rintro _ w4 ⟨rfl,u2⟩
 have H6:=H5.call u2
 refine ab 0 (h:=aV (k:=ab 0 (h:=jd (k:=ab 0 (h:=dL eM [(k*64)+(ctz x)] H6 (k:=fun w5 H7=>ab 0 (h:=kJ H7 0 (H7.rt 2) (k:=fun a1 c1 w6 ZL=>?_))))))))
 have H8:=(ZL.drop 2).no
 refine aN 7 rfl (Qs (a:=x) (b:=1#64) rfl rfl ?_)
 exact aN 0 rfl (uM (a:=x) (b:=x-(1#64)) rfl rfl (cm 2 (h:=by exact ⟨x&&&(x-(1#64)),o2++[(k*64)+(ctz x)],a1,c1,rfl,(H8.re rfl),(by rw [←hx,Ki QG,List.map_cons,List.append_assoc];rfl),rfl⟩) (hm:=(by exact S4 QG))))
 exact ab 4 (h:=aV (k:=cm 2 (h:=by exact ⟨k+1,o2,a3,c3,rfl,H5,om,(by have e0:x=0#64:=Classical.byContradiction QG;rw [e0,Gi] at hx;simpa using hx),rfl⟩)))
 refine bE 9 (h:=?_)
 have e:o=bj s:=by rw [ho,show k=4 by omega];exact UZ s
 rw [e] at H4
 exact ⟨a,c,(by rw [e]),(by have hh:=H4.kM 0;exact hh)⟩
theorem yz (q1:Nat) (q2:Nat) (w:World) (Ao:q1<256) (JP:q2<256):
 Calls Tryz.prog 172 #[.int .u8 ((q1:Nat):Int),.int .u8 ((q2:Nat):Int)] w (aX fun v w'=>v= .agg #[aj (bG q1 q2).w0,aj (bG q1 q2).w1,aj (bG q1 q2).w2,aj (bG q1 q2).w3]∧ax w [] w' []):=by
 refine cH Tryz.func172 (h:=fun H0=>ab 2 (h:=dB H0 (k:=fun w1 H1=>ab 4 (h:=dB H1 (k:=fun w2 H2=>ab 6 (h:=jd (k:=?_)))))))
 have H3:=H2.ps [1,0]
 refine dA 4 [6,5,4,1] (fun B R L m e v=>∃c,∃r:Bs,e=(6,b7 c)::B∧av w L v ([aQ w1.heap.size #[aj r.w0,aj r.w1,aj r.w2,aj r.w3] 87]::R)∧(q1≤c∧(c≤q2+1∨c=q1))∧(r=(List.range' q1 (c-q1)).foldl jy Bs.zero)∧m=q2+1-c) (i:=⟨q1,Bs.zero,rfl,H3,om,(by simp),rfl⟩) (h:=?_)
 rintro m1 Γ1 w3 ⟨c,r,rfl,H4,hc,hr,rfl⟩
 refine ab 5 (h:=jd (k:=aC 3 (fun k7=>?_) fun k7=>?_))
 refine fI 4 H4 (h:=fun w4 H5=>?_)
 refine nJ 1 1 ⟨_,_,_,rfl,rfl,rfl,rfl,rfl,rfl⟩ (fun _=>FQ (m:=c) dk rfl rfl ⟨rfl,rfl⟩) ?_
 refine nJ 0 2 ⟨_,_,_,rfl,rfl,rfl,rfl,rfl,rfl⟩ (fun _=>fz (j:=(c/64)) Tryz.underlying87 kc rfl rfl oz ⟨rfl,rfl⟩) ?_
 refine K3 0 3 (H5.b 0) ⟨_,_,_,rfl,rfl,rfl,rfl,rfl,rfl⟩ (fun _ hC=>ig r Tryz.underlying85 rfl rfl hC oz ⟨rfl,rfl⟩) ?_
 refine nJ 1 5 ⟨_,_,_,rfl,rfl,rfl,rfl,rfl,rfl⟩ (fun _=>AK (m:=c) oz dk rfl rfl ⟨rfl,rfl⟩) ?_
 refine nJ 0 6 ⟨_,_,_,rfl,rfl,rfl,rfl,rfl,rfl⟩ (fun _=>AH (a:=1#64) (n:=c%64) rfl rfl oz ⟨rfl,rfl⟩) ?_
 refine nJ 0 7 ⟨_,_,_,rfl,rfl,rfl,rfl,rfl,rfl⟩ (fun _=>AI (a:=r.get (c/64)) (b:=(1#64)<<<(c%64)) rfl rfl ⟨rfl,rfl⟩) ?_
 refine nJ 0 8 ⟨_,_,_,rfl,rfl,rfl,rfl,rfl,rfl⟩ (fun _=>fz (j:=(c/64)) Tryz.underlying87 kc rfl rfl oz ⟨rfl,rfl⟩) ?_
 refine uR 0 9 ⟨_,_,_,rfl,rfl,rfl,rfl,rfl,rfl⟩ (l5 r ((r.get (c/64))|||((1#64)<<<(c%64))) kc rfl rfl (H5.b 0) oz fun w5 u3=>?_)
 have H6:=H5.un 0 u3
 refine ⟨trivial,?_⟩
 exact ab 5 (h:=aV (k:=cm 2 (h:=by exact ⟨c+1,(r.put (c/64) ((r.get (c/64))|||((1#64)<<<(c%64)))),rfl,H6,om,(by rw [show c+1-q1=(c-q1)+1 by omega,vp,←hr,show q1+(c-q1)=c by omega];rfl),rfl⟩)))
 refine ab 4 (h:=cd (H4.b 0) (k:=aY 0 (h:=bL H4 1 (k:=fun w6 H7=>pO 3 (h1:=cS (H7.b 1)) (h:=?_)))))
 have e:r=bG q1 q2:=by rw [hr];unfold bG;rw [show c-q1=q2+1-q1 by omega]
 exact ⟨(by rw [e]),H7.af⟩
theorem Iy (la:aP) (l:List Rn) (lc:Nat) (ln:Nat) (w:World) (rl:bz pj w (.slice la ln lc) l) (hb:∀r,r∈l→r.lo<256∧r.hi<256):
 Calls Tryz.prog 204 #[.slice la ln lc] w (aX fun v w'=>v= .agg #[aj (mh l).w0,aj (mh l).w1,aj (mh l).w2,aj (mh l).w3]∧ax w [] w' []):=by
 obtain rfl:ln=l.length:=rl.len
 have eI:=rl.le
 refine cH Tryz.func204 (h:=fun H0=>ab 2 (h:=dB H0 (k:=fun w1 H1=>ab 4 (h:=dB H1 (k:=fun w2 H2=>?_)))))
 have H3:=H2.ps [1,0]
 refine dA 11 [8,7,6,3,2] (fun B R L m e v=>∃k,∃r:Bs,e=(8,b7 k)::B∧av w L v ([aQ w1.heap.size #[aj r.w0,aj r.w1,aj r.w2,aj r.w3] 87]::R)∧(k≤l.length)∧(r=(l.take k).foldl (fun s q=>qV s (bG q.lo q.hi)) Bs.zero)∧m=l.length-k) (i:=⟨0,Bs.zero,rfl,H3,om,rfl,rfl⟩) (h:=?_)
 rintro m1 Γ1 w3 ⟨k,r,rfl,H4,hk,hr,rfl⟩
 refine aC 6 (fun c87=>?_) fun c87=>?_
 refine ab 6 (h:=jb k (rl.at H4) (k:=ab 0 (h:=Fl (rl.at H4) (k:=ab 0 (h:=dB H4 (k:=fun w4 H5=>aY 0 (h:=bL H5 2 (k:=fun w5 H6=>?_))))))))
 have JR:=hb _ (ak (d:=⟨0,0⟩) (show k<l.length by omega))
 refine fI 2 H6 (h:=fun w6 H7=>c7 0 0 (H7.b 0) (D:=fun _ hC=>cd hC) (h:=c7 1 2 (H7.b 2) (D:=fun _ hC=>aM hC) (h:=c7 1 4 (H7.b 2) (D:=fun _ hC=>aM hC) (h:=dj 0 5 (D:=aA (c:=yz ((l.getD k ⟨0,0⟩).lo) ((l.getD k ⟨0,0⟩).hi) w6 JR.1 JR.2) (k:=?_))))))
 rintro _ w7 ⟨rfl,u5⟩
 have H8:=H7.call u5
 refine ⟨⟨(H8.b 0),trivial⟩,?_⟩
 refine dj 0 6 (D:=aA (c:=zM r (bG ((l.getD k ⟨0,0⟩).lo) ((l.getD k ⟨0,0⟩).hi)) w7) (k:=?_))
 rintro _ w8 ⟨rfl,u6⟩
 have H9:=H8.call u6
 refine ⟨trivial,?_⟩
 refine dj 0 7 (D:=bL H9 0 (k:=fun w9 bW=>?_))
 refine ⟨trivial,?_⟩
 exact ab 4 (h:=aV (k:=cm 2 (h:=by exact ⟨k+1,(qV r (bG ((l.getD k ⟨0,0⟩).lo) ((l.getD k ⟨0,0⟩).hi))),rfl,(bW.pm [0,1] rfl rfl),om,(by rw [Ee oz,←hr]),rfl⟩)))
 refine ab 4 (h:=cd (H4.b 0) (k:=aY 0 (h:=bL H4 1 (k:=fun iy bP=>pO 3 (h1:=cS (bP.b 1)) (h:=?_)))))
 have e:r=mh l:=by rw [hr,List.take_of_length_le oz];rfl
 exact ⟨(by rw [e]),bP.af⟩
set_option maxHeartbeats 4000000 in
theorem Lq (w:World):
 Calls Tryz.prog 203 #[] w (aX fun v w'=>∃a,∃l:List NR,∃c,v=aH a l c∧ax w [] w' [cE Sq 289 a l c,ao (Xq 303).row l]∧(l.map (fun r=>(r.nm,r.xs))=nj)):=by
 refine cH Tryz.func203 (h:=fun H0=>ab 7 (h:=cu (k:=ab 0 (h:=cu (k:=ab 0 (h:=cu (k:=ab 0 (h:=dB H0 (k:=fun w1 H1=>ab 0 (h:=dB H1 (k:=fun w2 H2=>ab 0 (h:=dB H2 (k:=fun w3 H3=>aY 0 (h:=bL H3 0 (k:=fun w4 H4=>aY 0 (h:=bL H4 1 (k:=fun w5 H5=>aY 0 (h:=bL H5 2 (k:=fun w6 H6=>ab 4 (h:=cd (H6.b 2) (k:=ab 0 (h:=cd (H6.b 0) (k:=ab 0 (h:=cd (H6.b 1) (k:=ab 0 (h:=dL pj ([(⟨48,57⟩:Rn),(⟨65,90⟩:Rn),(⟨97,122⟩:Rn)]:List Rn) H6 (k:=fun w7 H7=>ab 0 (h:=cu (k:=ab 0 (h:=cd (H7.b 0) (k:=ab 0 (h:=cd (H7.b 1) (k:=ab 0 (h:=dL pj ([(⟨65,90⟩:Rn),(⟨97,122⟩:Rn)]:List Rn) H7 (k:=fun w8 H8=>ab 0 (h:=cu (k:=ab 0 (h:=cu (k:=?_)))))))))))))))))))))))))))))))))))))))
 refine ab 0 (h:=cu (k:=ab 0 (h:=dL pj ([(⟨9,9⟩:Rn),(⟨32,32⟩:Rn)]:List Rn) H8 (k:=fun w9 H9=>ab 0 (h:=cu (k:=ab 0 (h:=cu (k:=ab 0 (h:=cu (k:=ab 0 (h:=dL pj ([(⟨0,31⟩:Rn),(⟨127,127⟩:Rn)]:List Rn) H9 (k:=fun iy bW=>ab 0 (h:=cu (k:=ab 0 (h:=cd (bW.b 2) (k:=ab 0 (h:=dL pj ([(⟨48,57⟩:Rn)]:List Rn) bW (k:=fun gS bP=>ab 0 (h:=cu (k:=ab 0 (h:=cu (k:=ab 0 (h:=dL pj ([(⟨33,126⟩:Rn)]:List Rn) bP (k:=fun jz ck=>ab 0 (h:=cu (k:=ab 0 (h:=cd (ck.b 1) (k:=ab 0 (h:=dL pj ([(⟨97,122⟩:Rn)]:List Rn) ck (k:=fun kK cU=>ab 0 (h:=cu (k:=ab 0 (h:=cu (k:=ab 0 (h:=dL pj ([(⟨32,126⟩:Rn)]:List Rn) cU (k:=fun nH cN=>ab 0 (h:=cu (k:=ab 0 (h:=cu (k:=?_))))))))))))))))))))))))))))))))))))))))
 refine ab 0 (h:=cu (k:=ab 0 (h:=cu (k:=ab 0 (h:=cu (k:=ab 0 (h:=dL pj ([(⟨33,47⟩:Rn),(⟨58,64⟩:Rn),(⟨91,96⟩:Rn),(⟨123,126⟩:Rn)]:List Rn) cN (k:=fun tU dt=>ab 0 (h:=cu (k:=ab 0 (h:=cu (k:=ab 0 (h:=cu (k:=ab 0 (h:=dL pj ([(⟨9,13⟩:Rn),(⟨32,32⟩:Rn)]:List Rn) dt (k:=fun ur dw=>ab 0 (h:=cu (k:=ab 0 (h:=cd (dw.b 0) (k:=ab 0 (h:=dL pj ([(⟨65,90⟩:Rn)]:List Rn) dw (k:=fun xq fH=>ab 0 (h:=cu (k:=ab 0 (h:=cd (fH.b 2) (k:=ab 0 (h:=cu (k:=ab 0 (h:=cu (k:=ab 0 (h:=dL pj ([(⟨48,57⟩:Rn),(⟨65,70⟩:Rn),(⟨97,102⟩:Rn)]:List Rn) fH (k:=fun zn il=>ab 0 (h:=cu (k:=?_))))))))))))))))))))))))))))))))))
 refine ab 0 (h:=dL Sq ([(⟨⟨#[97,108,110,117,109]⟩,(some ⟨w6.heap.size,0,none⟩),([(⟨48,57⟩:Rn),(⟨65,90⟩:Rn),(⟨97,122⟩:Rn)]:List Rn).length,([(⟨48,57⟩:Rn),(⟨65,90⟩:Rn),(⟨97,122⟩:Rn)]:List Rn).length,([(⟨48,57⟩:Rn),(⟨65,90⟩:Rn),(⟨97,122⟩:Rn)]:List Rn)⟩:NR),(⟨⟨#[97,108,112,104,97]⟩,(some ⟨w7.heap.size,0,none⟩),([(⟨65,90⟩:Rn),(⟨97,122⟩:Rn)]:List Rn).length,([(⟨65,90⟩:Rn),(⟨97,122⟩:Rn)]:List Rn).length,([(⟨65,90⟩:Rn),(⟨97,122⟩:Rn)]:List Rn)⟩:NR),(⟨⟨#[98,108,97,110,107]⟩,(some ⟨w8.heap.size,0,none⟩),([(⟨9,9⟩:Rn),(⟨32,32⟩:Rn)]:List Rn).length,([(⟨9,9⟩:Rn),(⟨32,32⟩:Rn)]:List Rn).length,([(⟨9,9⟩:Rn),(⟨32,32⟩:Rn)]:List Rn)⟩:NR),(⟨⟨#[99,110,116,114,108]⟩,(some ⟨w9.heap.size,0,none⟩),([(⟨0,31⟩:Rn),(⟨127,127⟩:Rn)]:List Rn).length,([(⟨0,31⟩:Rn),(⟨127,127⟩:Rn)]:List Rn).length,([(⟨0,31⟩:Rn),(⟨127,127⟩:Rn)]:List Rn)⟩:NR),(⟨⟨#[100,105,103,105,116]⟩,(some ⟨iy.heap.size,0,none⟩),([(⟨48,57⟩:Rn)]:List Rn).length,([(⟨48,57⟩:Rn)]:List Rn).length,([(⟨48,57⟩:Rn)]:List Rn)⟩:NR),(⟨⟨#[103,114,97,112,104]⟩,(some ⟨gS.heap.size,0,none⟩),([(⟨33,126⟩:Rn)]:List Rn).length,([(⟨33,126⟩:Rn)]:List Rn).length,([(⟨33,126⟩:Rn)]:List Rn)⟩:NR),(⟨⟨#[108,111,119,101,114]⟩,(some ⟨jz.heap.size,0,none⟩),([(⟨97,122⟩:Rn)]:List Rn).length,([(⟨97,122⟩:Rn)]:List Rn).length,([(⟨97,122⟩:Rn)]:List Rn)⟩:NR),(⟨⟨#[112,114,105,110,116]⟩,(some ⟨kK.heap.size,0,none⟩),([(⟨32,126⟩:Rn)]:List Rn).length,([(⟨32,126⟩:Rn)]:List Rn).length,([(⟨32,126⟩:Rn)]:List Rn)⟩:NR),(⟨⟨#[112,117,110,99,116]⟩,(some ⟨nH.heap.size,0,none⟩),([(⟨33,47⟩:Rn),(⟨58,64⟩:Rn),(⟨91,96⟩:Rn),(⟨123,126⟩:Rn)]:List Rn).length,([(⟨33,47⟩:Rn),(⟨58,64⟩:Rn),(⟨91,96⟩:Rn),(⟨123,126⟩:Rn)]:List Rn).length,([(⟨33,47⟩:Rn),(⟨58,64⟩:Rn),(⟨91,96⟩:Rn),(⟨123,126⟩:Rn)]:List Rn)⟩:NR),(⟨⟨#[115,112,97,99,101]⟩,(some ⟨tU.heap.size,0,none⟩),([(⟨9,13⟩:Rn),(⟨32,32⟩:Rn)]:List Rn).length,([(⟨9,13⟩:Rn),(⟨32,32⟩:Rn)]:List Rn).length,([(⟨9,13⟩:Rn),(⟨32,32⟩:Rn)]:List Rn)⟩:NR),(⟨⟨#[117,112,112,101,114]⟩,(some ⟨ur.heap.size,0,none⟩),([(⟨65,90⟩:Rn)]:List Rn).length,([(⟨65,90⟩:Rn)]:List Rn).length,([(⟨65,90⟩:Rn)]:List Rn)⟩:NR),(⟨⟨#[120,100,105,103,105,116]⟩,(some ⟨xq.heap.size,0,none⟩),([(⟨48,57⟩:Rn),(⟨65,70⟩:Rn),(⟨97,102⟩:Rn)]:List Rn).length,([(⟨48,57⟩:Rn),(⟨65,70⟩:Rn),(⟨97,102⟩:Rn)]:List Rn).length,([(⟨48,57⟩:Rn),(⟨65,70⟩:Rn),(⟨97,102⟩:Rn)]:List Rn)⟩:NR)]:List NR) il (k:=fun zm jh=>?_))
 refine cv 3 [0] (h:=bE 1 (h:=?_))
 have eH:=jh.sn
 have lf:av _ _ _ [[_,_,_,_,_,_,_,_,_,_,_,_],[_]]:=av.of (ax.iW eH (l:=[3,4,5,6,7,8,9,10,11,12,13,14,15]) rfl rfl) rfl
 have ji:Uu2:=lf.W1 0 rfl
 exact ⟨(some ⟨zn.heap.size,0,none⟩),([(⟨⟨#[97,108,110,117,109]⟩,(some ⟨w6.heap.size,0,none⟩),([(⟨48,57⟩:Rn),(⟨65,90⟩:Rn),(⟨97,122⟩:Rn)]:List Rn).length,([(⟨48,57⟩:Rn),(⟨65,90⟩:Rn),(⟨97,122⟩:Rn)]:List Rn).length,([(⟨48,57⟩:Rn),(⟨65,90⟩:Rn),(⟨97,122⟩:Rn)]:List Rn)⟩:NR),(⟨⟨#[97,108,112,104,97]⟩,(some ⟨w7.heap.size,0,none⟩),([(⟨65,90⟩:Rn),(⟨97,122⟩:Rn)]:List Rn).length,([(⟨65,90⟩:Rn),(⟨97,122⟩:Rn)]:List Rn).length,([(⟨65,90⟩:Rn),(⟨97,122⟩:Rn)]:List Rn)⟩:NR),(⟨⟨#[98,108,97,110,107]⟩,(some ⟨w8.heap.size,0,none⟩),([(⟨9,9⟩:Rn),(⟨32,32⟩:Rn)]:List Rn).length,([(⟨9,9⟩:Rn),(⟨32,32⟩:Rn)]:List Rn).length,([(⟨9,9⟩:Rn),(⟨32,32⟩:Rn)]:List Rn)⟩:NR),(⟨⟨#[99,110,116,114,108]⟩,(some ⟨w9.heap.size,0,none⟩),([(⟨0,31⟩:Rn),(⟨127,127⟩:Rn)]:List Rn).length,([(⟨0,31⟩:Rn),(⟨127,127⟩:Rn)]:List Rn).length,([(⟨0,31⟩:Rn),(⟨127,127⟩:Rn)]:List Rn)⟩:NR),(⟨⟨#[100,105,103,105,116]⟩,(some ⟨iy.heap.size,0,none⟩),([(⟨48,57⟩:Rn)]:List Rn).length,([(⟨48,57⟩:Rn)]:List Rn).length,([(⟨48,57⟩:Rn)]:List Rn)⟩:NR),(⟨⟨#[103,114,97,112,104]⟩,(some ⟨gS.heap.size,0,none⟩),([(⟨33,126⟩:Rn)]:List Rn).length,([(⟨33,126⟩:Rn)]:List Rn).length,([(⟨33,126⟩:Rn)]:List Rn)⟩:NR),(⟨⟨#[108,111,119,101,114]⟩,(some ⟨jz.heap.size,0,none⟩),([(⟨97,122⟩:Rn)]:List Rn).length,([(⟨97,122⟩:Rn)]:List Rn).length,([(⟨97,122⟩:Rn)]:List Rn)⟩:NR),(⟨⟨#[112,114,105,110,116]⟩,(some ⟨kK.heap.size,0,none⟩),([(⟨32,126⟩:Rn)]:List Rn).length,([(⟨32,126⟩:Rn)]:List Rn).length,([(⟨32,126⟩:Rn)]:List Rn)⟩:NR),(⟨⟨#[112,117,110,99,116]⟩,(some ⟨nH.heap.size,0,none⟩),([(⟨33,47⟩:Rn),(⟨58,64⟩:Rn),(⟨91,96⟩:Rn),(⟨123,126⟩:Rn)]:List Rn).length,([(⟨33,47⟩:Rn),(⟨58,64⟩:Rn),(⟨91,96⟩:Rn),(⟨123,126⟩:Rn)]:List Rn).length,([(⟨33,47⟩:Rn),(⟨58,64⟩:Rn),(⟨91,96⟩:Rn),(⟨123,126⟩:Rn)]:List Rn)⟩:NR),(⟨⟨#[115,112,97,99,101]⟩,(some ⟨tU.heap.size,0,none⟩),([(⟨9,13⟩:Rn),(⟨32,32⟩:Rn)]:List Rn).length,([(⟨9,13⟩:Rn),(⟨32,32⟩:Rn)]:List Rn).length,([(⟨9,13⟩:Rn),(⟨32,32⟩:Rn)]:List Rn)⟩:NR),(⟨⟨#[117,112,112,101,114]⟩,(some ⟨ur.heap.size,0,none⟩),([(⟨65,90⟩:Rn)]:List Rn).length,([(⟨65,90⟩:Rn)]:List Rn).length,([(⟨65,90⟩:Rn)]:List Rn)⟩:NR),(⟨⟨#[120,100,105,103,105,116]⟩,(some ⟨xq.heap.size,0,none⟩),([(⟨48,57⟩:Rn),(⟨65,70⟩:Rn),(⟨97,102⟩:Rn)]:List Rn).length,([(⟨48,57⟩:Rn),(⟨65,70⟩:Rn),(⟨97,102⟩:Rn)]:List Rn).length,([(⟨48,57⟩:Rn),(⟨65,70⟩:Rn),(⟨97,102⟩:Rn)]:List Rn)⟩:NR)]:List NR),([(⟨⟨#[97,108,110,117,109]⟩,(some ⟨w6.heap.size,0,none⟩),([(⟨48,57⟩:Rn),(⟨65,90⟩:Rn),(⟨97,122⟩:Rn)]:List Rn).length,([(⟨48,57⟩:Rn),(⟨65,90⟩:Rn),(⟨97,122⟩:Rn)]:List Rn).length,([(⟨48,57⟩:Rn),(⟨65,90⟩:Rn),(⟨97,122⟩:Rn)]:List Rn)⟩:NR),(⟨⟨#[97,108,112,104,97]⟩,(some ⟨w7.heap.size,0,none⟩),([(⟨65,90⟩:Rn),(⟨97,122⟩:Rn)]:List Rn).length,([(⟨65,90⟩:Rn),(⟨97,122⟩:Rn)]:List Rn).length,([(⟨65,90⟩:Rn),(⟨97,122⟩:Rn)]:List Rn)⟩:NR),(⟨⟨#[98,108,97,110,107]⟩,(some ⟨w8.heap.size,0,none⟩),([(⟨9,9⟩:Rn),(⟨32,32⟩:Rn)]:List Rn).length,([(⟨9,9⟩:Rn),(⟨32,32⟩:Rn)]:List Rn).length,([(⟨9,9⟩:Rn),(⟨32,32⟩:Rn)]:List Rn)⟩:NR),(⟨⟨#[99,110,116,114,108]⟩,(some ⟨w9.heap.size,0,none⟩),([(⟨0,31⟩:Rn),(⟨127,127⟩:Rn)]:List Rn).length,([(⟨0,31⟩:Rn),(⟨127,127⟩:Rn)]:List Rn).length,([(⟨0,31⟩:Rn),(⟨127,127⟩:Rn)]:List Rn)⟩:NR),(⟨⟨#[100,105,103,105,116]⟩,(some ⟨iy.heap.size,0,none⟩),([(⟨48,57⟩:Rn)]:List Rn).length,([(⟨48,57⟩:Rn)]:List Rn).length,([(⟨48,57⟩:Rn)]:List Rn)⟩:NR),(⟨⟨#[103,114,97,112,104]⟩,(some ⟨gS.heap.size,0,none⟩),([(⟨33,126⟩:Rn)]:List Rn).length,([(⟨33,126⟩:Rn)]:List Rn).length,([(⟨33,126⟩:Rn)]:List Rn)⟩:NR),(⟨⟨#[108,111,119,101,114]⟩,(some ⟨jz.heap.size,0,none⟩),([(⟨97,122⟩:Rn)]:List Rn).length,([(⟨97,122⟩:Rn)]:List Rn).length,([(⟨97,122⟩:Rn)]:List Rn)⟩:NR),(⟨⟨#[112,114,105,110,116]⟩,(some ⟨kK.heap.size,0,none⟩),([(⟨32,126⟩:Rn)]:List Rn).length,([(⟨32,126⟩:Rn)]:List Rn).length,([(⟨32,126⟩:Rn)]:List Rn)⟩:NR),(⟨⟨#[112,117,110,99,116]⟩,(some ⟨nH.heap.size,0,none⟩),([(⟨33,47⟩:Rn),(⟨58,64⟩:Rn),(⟨91,96⟩:Rn),(⟨123,126⟩:Rn)]:List Rn).length,([(⟨33,47⟩:Rn),(⟨58,64⟩:Rn),(⟨91,96⟩:Rn),(⟨123,126⟩:Rn)]:List Rn).length,([(⟨33,47⟩:Rn),(⟨58,64⟩:Rn),(⟨91,96⟩:Rn),(⟨123,126⟩:Rn)]:List Rn)⟩:NR),(⟨⟨#[115,112,97,99,101]⟩,(some ⟨tU.heap.size,0,none⟩),([(⟨9,13⟩:Rn),(⟨32,32⟩:Rn)]:List Rn).length,([(⟨9,13⟩:Rn),(⟨32,32⟩:Rn)]:List Rn).length,([(⟨9,13⟩:Rn),(⟨32,32⟩:Rn)]:List Rn)⟩:NR),(⟨⟨#[117,112,112,101,114]⟩,(some ⟨ur.heap.size,0,none⟩),([(⟨65,90⟩:Rn)]:List Rn).length,([(⟨65,90⟩:Rn)]:List Rn).length,([(⟨65,90⟩:Rn)]:List Rn)⟩:NR),(⟨⟨#[120,100,105,103,105,116]⟩,(some ⟨xq.heap.size,0,none⟩),([(⟨48,57⟩:Rn),(⟨65,70⟩:Rn),(⟨97,102⟩:Rn)]:List Rn).length,([(⟨48,57⟩:Rn),(⟨65,70⟩:Rn),(⟨97,102⟩:Rn)]:List Rn).length,([(⟨48,57⟩:Rn),(⟨65,70⟩:Rn),(⟨97,102⟩:Rn)]:List Rn)⟩:NR)]:List NR).length,rfl,(ji.se [1,0]),rfl⟩
theorem zb (name:ByteArray) (w:World):
 Calls Tryz.prog 194 #[.string name] w (aX fun v w'=>v= .tuple #[.agg #[aj (bZ name).w0,aj (bZ name).w1,aj (bZ name).w2,aj (bZ name).w3],.bool (fA name)]∧ax w [] w' []):=by
 refine cH Tryz.func194 (h:=fun H0=>ab 2 (h:=dB H0 (k:=fun w1 H1=>ab 6 (h:=aA (c:=Lq w1) (k:=?_)))))
 rintro _ w2 ⟨a_1,Ox,c_1,rfl,u2,Al⟩
 have H2:=H1.ns u2
 refine dA 5 [8,7,6,3,2,0] (fun B R L m e v=>∃k,e=(8,b7 k)::B∧av w L v (R)∧(k≤Ox.length)∧(∀j,j<k→(Ox.getD j yH).nm≠name)∧m=Ox.length-k) (i:=⟨0,rfl,H2,om,(by intro j hj;omega),rfl⟩) (h:=?_)
 rintro m1 Γ1 w3 ⟨k,rfl,H3,hk,hn,rfl⟩
 have h12:=Lp Al
 refine aC 6 (fun wP=>?_) fun wP=>?_
 refine ab 6 (h:=jb k (H3.rt 1) (k:=ab 0 (h:=Fl (H3.rt 1) (k:=ab 0 (h:=dB H3 (k:=fun w4 H4=>aY 0 (h:=bL H4 3 (k:=fun w5 H5=>ab 5 (h:=aM (H5.b 3) (k:=aC 4 (fun Zd=>?_) fun Zd=>?_))))))))))
 refine ab 3 (h:=aM (H5.b 3) (k:=ab 0 (h:=aA (c:=Iy _ ((Ox.getD k yH).xs) _ ((Ox.getD k yH).n) w5 (show bz pj w5 (.slice ((Ox.getD k yH).a) ((Ox.getD k yH).n) ((Ox.getD k yH).c)) ((Ox.getD k yH).xs) from (eK.own (H5.bU 2 rfl)).get yH k oz) (O6 Al oz)) (k:=?_))))
 rintro _ w6 ⟨rfl,u5⟩
 have H6:=H5.call u5
 refine aY 0 (h:=bL H6 0 (k:=fun w7 H7=>gG 4 (h1:=cS (H7.b 0)) (h2:=dc) (h:=?_)))
 obtain ⟨e1,e2⟩:=Ka Al (show k<Ox.length by omega) hn Zd
 exact ⟨(by rw [e1,e2]),H7.af⟩
 exact ab 4 (h:=aV (k:=cm 2 (h:=by exact ⟨k+1,rfl,(H5.pm [0,1,2] rfl rfl),om,(by intro j hj;exact (Nat.lt_or_ge j k).elim (hn j) (fun h=>by (obtain rfl:j=k:=by omega);exact Zd)),rfl⟩)))
 refine ab 4 (h:=cu (us:=[aj Bs.zero.w0,aj Bs.zero.w1,aj Bs.zero.w2,aj Bs.zero.w3]) (k:=aY 0 (h:=bL H3 0 (k:=fun w8 H8=>gG 4 (h1:=cS (H8.b 0)) (h2:=dc) (h:=?_)))))
 obtain ⟨e1,e2⟩:=F6 Al (fun j hj=>hn j oz)
 exact ⟨(by rw [e1,e2]),H8.af⟩
theorem mE (name:ByteArray) (w:World):
 Calls Tryz.prog 174 #[.string name] w (aX fun v w'=>v= .agg #[aj (bZ name).w0,aj (bZ name).w1,aj (bZ name).w2,aj (bZ name).w3]∧ax w [] w' []):=by
 refine cH Tryz.func174 (h:=fun H0=>ab 2 (h:=dB H0 (k:=fun w1 H1=>ab 5 (h:=aA (c:=zb _ w1) (k:=?_)))))
 rintro _ w2 ⟨rfl,u2⟩
 have H2:=H1.call u2
 exact ab 3 (h:=dB H2 (k:=fun w3 H3=>aY 0 (h:=bL H3 1 (k:=fun w4 H4=>ab 5 (h:=cd (H4.b 1) (k:=aY 0 (h:=bL H4 0 (k:=fun w5 H5=>pO 3 (h1:=cS (H5.b 0)) (h:=⟨rfl,H5.af⟩)))))))))
theorem wy (c:Nat) (w:World) (hc:c=100∨c=115∨c=119):
 Calls Tryz.prog 145 #[.int .u8 ((c:Nat):Int)] w (aX fun v w'=>v= .tuple #[.agg #[aj (jw c).w0,aj (jw c).w1,aj (jw c).w2,aj (jw c).w3],.bool true]∧ax w [] w' []):=by
 refine cH Tryz.func145 (h:=fun H0=>ab 2 (h:=dB H0 (k:=fun w1 H1=>aC 16 (fun Y5=>?_) fun Y5=>?_)))
 exfalso;omega
 refine aC 6 (fun KJ=>?_) fun KJ=>?_
 exfalso;omega
 refine aC 6 (fun Kd=>?_) fun Kd=>?_
 exfalso;omega
 refine aC 6 (fun UH=>?_) fun UH=>?_
 refine ab 2 (h:=aA (c:=mE _ w1) (k:=?_))
 rintro _ w2 ⟨rfl,u2⟩
 have H2:=H1.call u2
 refine aY 0 (h:=bL H2 0 (k:=fun w3 H3=>gG 4 (h1:=cS (H3.b 0)) (h2:=dc) (h:=?_)))
 have e:jw c=bZ ⟨#[100,105,103,105,116]⟩:=if_pos oz
 exact ⟨(by rw [e]),H3.af⟩
 refine aC 6 (fun UG=>?_) fun UG=>?_
 refine ab 2 (h:=aA (c:=mE _ w1) (k:=?_))
 rintro _ w4 ⟨rfl,u4⟩
 have H4:=H1.call u4
 refine aY 0 (h:=bL H4 0 (k:=fun w5 H5=>gG 4 (h1:=cS (H5.b 0)) (h2:=dc) (h:=?_)))
 have e:jw c=bZ ⟨#[115,112,97,99,101]⟩:=by unfold jw;rw [if_neg oz,if_pos oz]
 exact ⟨(by rw [e]),H5.af⟩
 refine aC 6 (fun UF=>?_) fun UF=>?_
 refine ab 2 (h:=aA (c:=mE _ w1) (k:=?_))
 rintro _ w6 ⟨rfl,u6⟩
 have H6:=H1.call u6
 refine ab 0 (h:=dL eM [95] H6 (k:=fun w7 H7=>ab 0 (h:=aA (c:=mD _ [95] _ ([95].length) w7 (H7.rt 1) (by intro c hc;simp at hc;omega)) (k:=?_))))
 rintro _ w8 ⟨rfl,u8⟩
 have H8:=H7.call u8
 refine ab 0 (h:=aA (c:=zM (bZ ⟨#[97,108,110,117,109]⟩) (fZ [95]) w8) (k:=?_))
 rintro _ w9 ⟨rfl,u9⟩
 have H9:=H8.call u9
 refine aY 0 (h:=bL H9 0 (k:=fun iy bW=>gG 4 (h1:=cS (bW.b 0)) (h2:=dc) (h:=?_)))
 have e:jw c=qV (bZ ⟨#[97,108,110,117,109]⟩) (fZ [95]):=by unfold jw;rw [if_neg oz,if_neg oz]
 exact ⟨(by rw [e]),bW.af⟩
 exfalso;omega
theorem Ql (c:Nat) (w:World) (hc:c<256):
 Calls Tryz.prog 145 #[.int .u8 ((c:Nat):Int)] w (aX fun v w'=>v= .tuple #[.agg #[aj ((cO c).1).w0,aj ((cO c).1).w1,aj ((cO c).1).w2,aj ((cO c).1).w3],.bool ((cO c).2)]∧ax w [] w' []):=by
 refine cH Tryz.func145 (h:=fun H0=>ab 2 (h:=dB H0 (k:=fun w1 H1=>aC 16 (fun Y5=>?_) fun Y5=>?_)))
 refine ab 2 (h:=dL eM [10] H1 (k:=fun w2 H2=>ab 0 (h:=aA (c:=mD _ [10] _ ([10].length) w2 (H2.rt 1) (by intro c hc;simp at hc;omega)) (k:=?_))))
 rintro _ w3 ⟨rfl,u3⟩
 have H3:=H2.call u3
 refine aY 0 (h:=bL H3 0 (k:=fun w4 H4=>gG 4 (h1:=cS (H4.b 0)) (h2:=dc) (h:=?_)))
 have e:cO c=(fZ [10],true):=by unfold cO;rw [if_pos oz]
 exact ⟨(by rw [e]),H4.af⟩
 refine aC 6 (fun KJ=>?_) fun KJ=>?_
 refine ab 2 (h:=dL eM [9] H1 (k:=fun w5 H5=>ab 0 (h:=aA (c:=mD _ [9] _ ([9].length) w5 (H5.rt 1) (by intro c hc;simp at hc;omega)) (k:=?_))))
 rintro _ w6 ⟨rfl,u6⟩
 have H6:=H5.call u6
 refine aY 0 (h:=bL H6 0 (k:=fun w7 H7=>gG 4 (h1:=cS (H7.b 0)) (h2:=dc) (h:=?_)))
 have e:cO c=(fZ [9],true):=by unfold cO;rw [if_neg oz,if_pos oz]
 exact ⟨(by rw [e]),H7.af⟩
 refine aC 6 (fun Kd=>?_) fun Kd=>?_
 refine ab 2 (h:=dL eM [13] H1 (k:=fun w8 H8=>ab 0 (h:=aA (c:=mD _ [13] _ ([13].length) w8 (H8.rt 1) (by intro c hc;simp at hc;omega)) (k:=?_))))
 rintro _ w9 ⟨rfl,u9⟩
 have H9:=H8.call u9
 refine aY 0 (h:=bL H9 0 (k:=fun iy bW=>gG 4 (h1:=cS (bW.b 0)) (h2:=dc) (h:=?_)))
 have e:cO c=(fZ [13],true):=by unfold cO;rw [if_neg oz,if_neg oz,if_pos oz]
 exact ⟨(by rw [e]),bW.af⟩
 refine aC 6 (fun UH=>?_) fun UH=>?_
 refine ab 2 (h:=aA (c:=mE _ w1) (k:=?_))
 rintro _ gS ⟨rfl,xr⟩
 have bP:=H1.call xr
 refine aY 0 (h:=bL bP 0 (k:=fun jz ck=>gG 4 (h1:=cS (ck.b 0)) (h2:=dc) (h:=?_)))
 have e:cO c=(jw c,true):=by unfold cO;rw [if_neg oz,if_neg oz,if_neg oz,if_pos oz]
 have e1:jw c=bZ ⟨#[100,105,103,105,116]⟩:=if_pos oz
 exact ⟨(by rw [e,e1]),ck.af⟩
 refine aC 6 (fun UG=>?_) fun UG=>?_
 refine ab 2 (h:=aA (c:=mE _ w1) (k:=?_))
 rintro _ kK ⟨rfl,zu⟩
 have cU:=H1.call zu
 refine aY 0 (h:=bL cU 0 (k:=fun nH cN=>gG 4 (h1:=cS (cN.b 0)) (h2:=dc) (h:=?_)))
 have e:cO c=(jw c,true):=by unfold cO;rw [if_neg oz,if_neg oz,if_neg oz,if_pos oz]
 have e1:jw c=bZ ⟨#[115,112,97,99,101]⟩:=by unfold jw;rw [if_neg oz,if_pos oz]
 exact ⟨(by rw [e,e1]),cN.af⟩
 refine aC 6 (fun UF=>?_) fun UF=>?_
 refine ab 2 (h:=aA (c:=mE _ w1) (k:=?_))
 rintro _ tU ⟨rfl,ON⟩
 have dt:=H1.call ON
 refine ab 0 (h:=dL eM [95] dt (k:=fun ur dw=>ab 0 (h:=aA (c:=mD _ [95] _ ([95].length) ur (dw.rt 1) (by intro c hc;simp at hc;omega)) (k:=?_))))
 rintro _ xq ⟨rfl,Iz⟩
 have fH:=dw.call Iz
 refine ab 0 (h:=aA (c:=zM (bZ ⟨#[97,108,110,117,109]⟩) (fZ [95]) xq) (k:=?_))
 rintro _ zn ⟨rfl,Sp⟩
 have il:=fH.call Sp
 refine aY 0 (h:=bL il 0 (k:=fun zm jh=>gG 4 (h1:=cS (jh.b 0)) (h2:=dc) (h:=?_)))
 have e:cO c=(jw c,true):=by unfold cO;rw [if_neg oz,if_neg oz,if_neg oz,if_pos oz]
 have e1:jw c=qV (bZ ⟨#[97,108,110,117,109]⟩) (fZ [95]):=by unfold jw;rw [if_neg oz,if_neg oz]
 exact ⟨(by rw [e,e1]),jh.af⟩
 refine aC 7 (fun VV=>?_) fun VV=>?_
 refine aC 2 (fun NP=>?_) fun NP=>?_
 refine aN 3 rfl (mR (m:=c) oz rfl rfl (ab 0 (h:=aA (c:=wy (c|||32) w1 (Az oz)) (k:=?_))))
 rintro _ Ix ⟨rfl,Wb⟩
 have eH:=H1.call Wb
 refine ab 3 (h:=dB eH (k:=fun Q9 lf=>aY 0 (h:=bL lf 1 (k:=fun Oo ji=>ab 5 (h:=cd (ji.b 1) (k:=ab 0 (h:=aA (c:=oX (jw (c|||32)) Oo) (k:=?_))))))))
 rintro _ Om ⟨rfl,Wa⟩
 have oI:=ji.call Wa
 refine aY 0 (h:=bL oI 0 (k:=fun Ol nF=>gG 4 (h1:=cS (nF.b 0)) (h2:=dc) (h:=?_)))
 have e:cO c=(fF (jw (c|||32)),true):=by unfold cO;rw [if_neg oz,if_neg oz,if_neg oz,if_neg oz,if_pos oz]
 exact ⟨(by rw [e]),nF.af⟩
 exact absurd VV NP
 refine aC 6 (fun NP=>?_) fun NP=>?_
 refine aC 2 (fun Ia=>?_) fun Ia=>?_
 refine aN 3 rfl (mR (m:=c) oz rfl rfl (ab 0 (h:=aA (c:=wy (c|||32) w1 (Az oz)) (k:=?_))))
 rintro _ Q8 ⟨rfl,u25⟩
 have nE:=H1.call u25
 refine ab 3 (h:=dB nE (k:=fun V9 pM=>aY 0 (h:=bL pM 1 (k:=fun Sn pL=>ab 5 (h:=cd (pL.b 1) (k:=ab 0 (h:=aA (c:=oX (jw (c|||32)) Sn) (k:=?_))))))))
 rintro _ Sm ⟨rfl,u28⟩
 have rW:=pL.call u28
 refine aY 0 (h:=bL rW 0 (k:=fun ZU tS=>gG 4 (h1:=cS (tS.b 0)) (h2:=dc) (h:=?_)))
 have e:cO c=(fF (jw (c|||32)),true):=by unfold cO;rw [if_neg oz,if_neg oz,if_neg oz,if_neg oz,if_pos oz]
 exact ⟨(by rw [e]),tS.af⟩
 exact absurd NP Ia
 refine aC 5 (fun Ia=>?_) fun Ia=>?_
 refine aN 3 rfl (mR (m:=c) oz rfl rfl (ab 0 (h:=aA (c:=wy (c|||32) w1 (Az oz)) (k:=?_))))
 rintro _ w30 ⟨rfl,u30⟩
 have pK:=H1.call u30
 refine ab 3 (h:=dB pK (k:=fun w31 mf=>aY 0 (h:=bL mf 1 (k:=fun w32 rV=>ab 5 (h:=cd (rV.b 1) (k:=ab 0 (h:=aA (c:=oX (jw (c|||32)) w32) (k:=?_))))))))
 rintro _ w33 ⟨rfl,u33⟩
 have pY:=rV.call u33
 refine aY 0 (h:=bL pY 0 (k:=fun w34 xV=>gG 4 (h1:=cS (xV.b 0)) (h2:=dc) (h:=?_)))
 have e:cO c=(fF (jw (c|||32)),true):=by unfold cO;rw [if_neg oz,if_neg oz,if_neg oz,if_neg oz,if_pos oz]
 exact ⟨(by rw [e]),xV.af⟩
 refine ab 6 (h:=aA (c:=mE _ w1) (k:=?_))
 rintro _ w35 ⟨rfl,u35⟩
 have qF:=H1.call u35
 refine ab 1 (h:=aA (c:=HD (bZ ⟨#[97,108,110,117,109]⟩) c w35 oz) (k:=?_))
 rintro _ w36 ⟨rfl,u36⟩
 have A5:=qF.call u36
 refine dv 2 (fun Kc=>?_) fun Kc=>?_
 refine ab 2 (h:=cu (us:=[aj Bs.zero.w0,aj Bs.zero.w1,aj Bs.zero.w2,aj Bs.zero.w3]) (k:=aY 0 (h:=bL A5 0 (k:=fun w37 Bh=>gG 4 (h1:=cS (Bh.b 0)) (h2:=dc) (h:=?_)))))
 have e:cO c=(Bs.zero,false):=by unfold cO;rw [if_neg oz,if_neg oz,if_neg oz,if_neg oz,if_neg oz,if_pos Kc]
 exact ⟨(by rw [e]),Bh.af⟩
 refine ab 5 (h:=dL eM [c] A5 (k:=fun w38 xg=>ab 0 (h:=aA (c:=mD _ [c] _ ([c].length) w38 (xg.rt 1) (by intro c hc;simp at hc;omega)) (k:=?_))))
 rintro _ w39 ⟨rfl,u39⟩
 have Iq:=xg.call u39
 refine aY 0 (h:=bL Iq 0 (k:=fun w40 Gm=>gG 4 (h1:=cS (Gm.b 0)) (h2:=dc) (h:=?_)))
 have e:cO c=(fZ [c],true):=by unfold cO;rw [if_neg oz,if_neg oz,if_neg oz,if_neg oz,if_neg oz,if_neg Kc]
 exact ⟨(by rw [e]),Gm.af⟩
theorem Qm (w:World):
 Calls Tryz.prog 98 #[] w (aX fun v w'=>v= .agg #[aj (fF (fZ [10])).w0,aj (fF (fZ [10])).w1,aj (fF (fZ [10])).w2,aj (fF (fZ [10])).w3]∧ax w [] w' []):=by
 refine cH Tryz.func98 (h:=fun H0=>ab 2 (h:=dB H0 (k:=fun w1 H1=>ab 4 (h:=dL eM [10] H1 (k:=fun w2 H2=>ab 0 (h:=aA (c:=mD _ [10] _ ([10].length) w2 (H2.rt 1) (by intro c hc;simp at hc;omega)) (k:=?_)))))))
 rintro _ w3 ⟨rfl,u3⟩
 have H3:=H2.call u3
 refine ab 0 (h:=aA (c:=oX (fZ [10]) w3) (k:=?_))
 rintro _ w4 ⟨rfl,u4⟩
 have H4:=H3.call u4
 exact aY 0 (h:=bL H4 0 (k:=fun w5 H5=>pO 3 (h1:=cS (H5.b 0)) (h:=⟨rfl,H5.af⟩)))
theorem zt (b:Nat) (w:World):
 Calls Tryz.prog 190 #[b7 b] w (aX fun v w'=>v= .bool (jk b)∧ax w [] w' []):=by
 refine cH Tryz.func190 (h:=fun H0=>b9 10 5 (fun g9=>?_) fun g9=>?_)
 exact bE 7 (h:=⟨(by congr 1;rw [Bool.eq_iff_iff];simp [jk];omega),H0.af⟩)
 exact bE 7 (h:=⟨(by congr 1;rw [Bool.eq_iff_iff];simp [jk];omega),H0.af⟩)
theorem Ac (b:Nat) (w:World):
 Calls Tryz.prog 191 #[b7 b] w (aX fun v w'=>v= .bool (jt b)∧ax w [] w' []):=by
 refine cH Tryz.func191 (h:=fun H0=>b9 10 5 (fun g10=>?_) fun g10=>?_)
 exact bE 7 (h:=⟨(by congr 1;rw [Bool.eq_iff_iff];simp [jt];omega),H0.af⟩)
 exact bE 7 (h:=⟨(by congr 1;rw [Bool.eq_iff_iff];simp [jt];omega),H0.af⟩)
theorem sQ (b:Nat) (w:World):
 Calls Tryz.prog 170 #[b7 b] w (aX fun v w'=>v= .bool (gR b)∧ax w [] w' []):=by
 refine cH Tryz.func170 (h:=fun H0=>b9 10 5 (fun g11=>?_) fun g11=>?_)
 exact bE 7 (h:=⟨(by congr 1;rw [Bool.eq_iff_iff];simp [gR];omega),H0.af⟩)
 exact bE 7 (h:=⟨(by congr 1;rw [Bool.eq_iff_iff];simp [gR];omega),H0.af⟩)
theorem Ag (name:ByteArray) (b:Nat) (w:World):
 Calls Tryz.prog 169 #[.string name,b7 b] w (aX fun v w'=>v= .tuple #[.bool (dI name b),.bool (isOk name)]∧ax w [] w' []):=by
 refine cH Tryz.func169 (h:=fun H0=>aC 19 (fun oC=>?_) fun oC=>?_)
 refine ab 3 (h:=aA (c:=zt b w) (k:=?_))
 rintro _ w1 ⟨rfl,u1⟩
 have H1:=H0.call u1
 refine iX 1 11 (fun g17=>?_) fun g17=>?_
 refine gh 8 (h:=?_)
 have e1:dI name b=(jk b||jt b):=by unfold dI;rw [if_pos oC]
 have e2:isOk name=true:=by unfold isOk;simp [oC]
 exact ⟨(by rw [e1,e2];all_goals exact gB (by (first|rfl|(rw [Bool.eq_iff_iff];(try simp only [jk,jt,gR,Bool.or_eq_true,Bool.and_eq_true,Bool.not_eq_true',decide_eq_true_eq,decide_eq_false_iff_not,Bool.false_eq_true,iff_false,iff_true,true_iff,false_iff] at*);omega)))),H1.af⟩
 refine ab 1 (h:=aA (c:=Ac b w1) (k:=?_))
 rintro _ w2 ⟨rfl,u2⟩
 have H2:=H1.call u2
 refine gh 6 (h:=?_)
 have e1:dI name b=(jk b||jt b):=by unfold dI;rw [if_pos oC]
 have e2:isOk name=true:=by unfold isOk;simp [oC]
 exact ⟨(by rw [e1,e2];all_goals exact gB (by (first|rfl|(rw [Bool.eq_iff_iff];(try simp only [jk,jt,gR,Bool.or_eq_true,Bool.and_eq_true,Bool.not_eq_true',decide_eq_true_eq,decide_eq_false_iff_not,Bool.false_eq_true,iff_false,iff_true,true_iff,false_iff] at*);omega)))),H2.af⟩
 refine aC 6 (fun kH=>?_) fun kH=>?_
 refine ab 3 (h:=aA (c:=sQ b w) (k:=?_))
 rintro _ w3 ⟨rfl,u3⟩
 have H3:=H0.call u3
 refine gh 5 (h:=?_)
 have e1:dI name b=(gR b):=by unfold dI;rw [if_neg oC,if_pos kH]
 have e2:isOk name=true:=by unfold isOk;simp [kH]
 exact ⟨(by rw [e1,e2];all_goals exact gB (by (first|rfl|(rw [Bool.eq_iff_iff];(try simp only [jk,jt,gR,Bool.or_eq_true,Bool.and_eq_true,Bool.not_eq_true',decide_eq_true_eq,decide_eq_false_iff_not,Bool.false_eq_true,iff_false,iff_true,true_iff,false_iff] at*);omega)))),H3.af⟩
 refine aC 6 (fun lz=>?_) fun lz=>?_
 refine ab 3 (h:=aA (c:=zt b w) (k:=?_))
 rintro _ w4 ⟨rfl,u4⟩
 have H4:=H0.call u4
 refine iX 1 23 (fun g21=>?_) fun g21=>?_
 refine gh 12 (h:=?_)
 have e1:dI name b=(jk b||jt b||gR b):=by unfold dI;rw [if_neg oC,if_neg kH,if_pos lz]
 have e2:isOk name=true:=by unfold isOk;simp [lz]
 exact ⟨(by rw [e1,e2];all_goals exact gB (by (first|rfl|(rw [Bool.eq_iff_iff];(try simp only [jk,jt,gR,Bool.or_eq_true,Bool.and_eq_true,Bool.not_eq_true',decide_eq_true_eq,decide_eq_false_iff_not,Bool.false_eq_true,iff_false,iff_true,true_iff,false_iff] at*);omega)))),H4.af⟩
 refine ab 1 (h:=aA (c:=Ac b w4) (k:=?_))
 rintro _ w5 ⟨rfl,u5⟩
 have H5:=H4.call u5
 refine iX 2 27 (fun adt=>?_) fun adt=>?_
 refine gh 8 (h:=?_)
 have e1:dI name b=(jk b||jt b||gR b):=by unfold dI;rw [if_neg oC,if_neg kH,if_pos lz]
 have e2:isOk name=true:=by unfold isOk;simp [lz]
 exact ⟨(by rw [e1,e2];all_goals exact gB (by (first|rfl|(rw [Bool.eq_iff_iff];(try simp only [jk,jt,gR,Bool.or_eq_true,Bool.and_eq_true,Bool.not_eq_true',decide_eq_true_eq,decide_eq_false_iff_not,Bool.false_eq_true,iff_false,iff_true,true_iff,false_iff] at*);omega)))),H5.af⟩
 refine ab 1 (h:=aA (c:=sQ b w5) (k:=?_))
 rintro _ w6 ⟨rfl,u6⟩
 have H6:=H5.call u6
 refine gh 6 (h:=?_)
 have e1:dI name b=(jk b||jt b||gR b):=by unfold dI;rw [if_neg oC,if_neg kH,if_pos lz]
 have e2:isOk name=true:=by unfold isOk;simp [lz]
 exact ⟨(by rw [e1,e2];all_goals exact gB (by (first|rfl|(rw [Bool.eq_iff_iff];(try simp only [jk,jt,gR,Bool.or_eq_true,Bool.and_eq_true,Bool.not_eq_true',decide_eq_true_eq,decide_eq_false_iff_not,Bool.false_eq_true,iff_false,iff_true,true_iff,false_iff] at*);omega)))),H6.af⟩
 refine aC 6 (fun k7=>?_) fun k7=>?_
 refine ab 3 (h:=aA (c:=zt b w) (k:=?_))
 rintro _ w7 ⟨rfl,u7⟩
 have H7:=H0.call u7
 refine gh 5 (h:=?_)
 have e1:dI name b=(jk b):=by unfold dI;rw [if_neg oC,if_neg kH,if_neg lz,if_pos k7]
 have e2:isOk name=true:=by unfold isOk;simp [k7]
 exact ⟨(by rw [e1,e2];all_goals exact gB (by (first|rfl|(rw [Bool.eq_iff_iff];(try simp only [jk,jt,gR,Bool.or_eq_true,Bool.and_eq_true,Bool.not_eq_true',decide_eq_true_eq,decide_eq_false_iff_not,Bool.false_eq_true,iff_false,iff_true,true_iff,false_iff] at*);omega)))),H7.af⟩
 refine aC 6 (fun pE=>?_) fun pE=>?_
 refine ab 3 (h:=aA (c:=Ac b w) (k:=?_))
 rintro _ w8 ⟨rfl,u8⟩
 have H8:=H0.call u8
 refine gh 5 (h:=?_)
 have e1:dI name b=(jt b):=by unfold dI;rw [if_neg oC,if_neg kH,if_neg lz,if_neg k7,if_pos pE]
 have e2:isOk name=true:=by unfold isOk;simp [pE]
 exact ⟨(by rw [e1,e2];all_goals exact gB (by (first|rfl|(rw [Bool.eq_iff_iff];(try simp only [jk,jt,gR,Bool.or_eq_true,Bool.and_eq_true,Bool.not_eq_true',decide_eq_true_eq,decide_eq_false_iff_not,Bool.false_eq_true,iff_false,iff_true,true_iff,false_iff] at*);omega)))),H8.af⟩
 refine aC 6 (fun fX=>?_) fun fX=>?_
 refine b9 5 43 (fun Qb=>?_) fun Qb=>?_
 refine b9 4 47 (fun adq=>?_) fun adq=>?_
 refine gh 8 (h:=?_)
 have e1:dI name b=(decide (9≤b∧b≤13∨b=32)):=by unfold dI;rw [if_neg oC,if_neg kH,if_neg lz,if_neg k7,if_neg pE,if_pos fX]
 have e2:isOk name=true:=by unfold isOk;simp [fX]
 exact ⟨(by rw [e1,e2];all_goals exact gB (by (first|rfl|(rw [Bool.eq_iff_iff];(try simp only [jk,jt,gR,Bool.or_eq_true,Bool.and_eq_true,Bool.not_eq_true',decide_eq_true_eq,decide_eq_false_iff_not,Bool.false_eq_true,iff_false,iff_true,true_iff,false_iff] at*);omega)))),H0.af⟩
 refine gh 8 (h:=?_)
 have e1:dI name b=(decide (9≤b∧b≤13∨b=32)):=by unfold dI;rw [if_neg oC,if_neg kH,if_neg lz,if_neg k7,if_neg pE,if_pos fX]
 have e2:isOk name=true:=by unfold isOk;simp [fX]
 exact ⟨(by rw [e1,e2];all_goals exact gB (by (first|rfl|(rw [Bool.eq_iff_iff];(try simp only [jk,jt,gR,Bool.or_eq_true,Bool.and_eq_true,Bool.not_eq_true',decide_eq_true_eq,decide_eq_false_iff_not,Bool.false_eq_true,iff_false,iff_true,true_iff,false_iff] at*);omega)))),H0.af⟩
 refine gh 12 (h:=?_)
 have e1:dI name b=(decide (9≤b∧b≤13∨b=32)):=by unfold dI;rw [if_neg oC,if_neg kH,if_neg lz,if_neg k7,if_neg pE,if_pos fX]
 have e2:isOk name=true:=by unfold isOk;simp [fX]
 exact ⟨(by rw [e1,e2];all_goals exact gB (by (first|rfl|(rw [Bool.eq_iff_iff];(try simp only [jk,jt,gR,Bool.or_eq_true,Bool.and_eq_true,Bool.not_eq_true',decide_eq_true_eq,decide_eq_false_iff_not,Bool.false_eq_true,iff_false,iff_true,true_iff,false_iff] at*);omega)))),H0.af⟩
 refine aC 6 (fun qD=>?_) fun qD=>?_
 refine b9 5 55 (fun Yq=>?_) fun Yq=>?_
 refine gh 8 (h:=?_)
 have e1:dI name b=(decide (b=9∨b=32)):=by unfold dI;rw [if_neg oC,if_neg kH,if_neg lz,if_neg k7,if_neg pE,if_neg fX,if_pos qD]
 have e2:isOk name=true:=by unfold isOk;simp [qD]
 exact ⟨(by rw [e1,e2];all_goals exact gB (by (first|rfl|(rw [Bool.eq_iff_iff];(try simp only [jk,jt,gR,Bool.or_eq_true,Bool.and_eq_true,Bool.not_eq_true',decide_eq_true_eq,decide_eq_false_iff_not,Bool.false_eq_true,iff_false,iff_true,true_iff,false_iff] at*);omega)))),H0.af⟩
 refine gh 8 (h:=?_)
 have e1:dI name b=(decide (b=9∨b=32)):=by unfold dI;rw [if_neg oC,if_neg kH,if_neg lz,if_neg k7,if_neg pE,if_neg fX,if_pos qD]
 have e2:isOk name=true:=by unfold isOk;simp [qD]
 exact ⟨(by rw [e1,e2];all_goals exact gB (by (first|rfl|(rw [Bool.eq_iff_iff];(try simp only [jk,jt,gR,Bool.or_eq_true,Bool.and_eq_true,Bool.not_eq_true',decide_eq_true_eq,decide_eq_false_iff_not,Bool.false_eq_true,iff_false,iff_true,true_iff,false_iff] at*);omega)))),H0.af⟩
 refine aC 6 (fun rO=>?_) fun rO=>?_
 refine b9 5 63 (fun M0=>?_) fun M0=>?_
 refine b9 4 67 (fun FF=>?_) fun FF=>?_
 refine ab 1 (h:=aA (c:=zt b w) (k:=?_))
 rintro _ w9 ⟨rfl,u9⟩
 have H9:=H0.call u9
 refine iX 3 72 (fun C6=>?_) fun C6=>?_
 refine ab 1 (h:=aA (c:=Ac b w9) (k:=?_))
 rintro _ iy ⟨rfl,uU⟩
 have bW:=H9.call uU
 refine iX 3 77 (fun wh=>?_) fun wh=>?_
 refine ab 1 (h:=aA (c:=sQ b iy) (k:=?_))
 rintro _ gS ⟨rfl,xr⟩
 have bP:=bW.call xr
 refine cv 6 [5,4] (h:=gh 1 (h:=?_))
 have e1:dI name b=(decide (33≤b∧b≤126)&& !jk b&& !jt b&& !gR b):=by unfold dI;rw [if_neg oC,if_neg kH,if_neg lz,if_neg k7,if_neg pE,if_neg fX,if_neg qD,if_pos rO]
 have e2:isOk name=true:=by unfold isOk;simp [rO]
 exact ⟨(by rw [e1,e2];all_goals exact gB (by (first|rfl|(rw [Bool.eq_iff_iff];(try simp only [jk,jt,gR,Bool.or_eq_true,Bool.and_eq_true,Bool.not_eq_true',decide_eq_true_eq,decide_eq_false_iff_not,Bool.false_eq_true,iff_false,iff_true,true_iff,false_iff] at*);omega)))),bP.af⟩
 refine cv 8 [5,4] (h:=gh 1 (h:=?_))
 have e1:dI name b=(decide (33≤b∧b≤126)&& !jk b&& !jt b&& !gR b):=by unfold dI;rw [if_neg oC,if_neg kH,if_neg lz,if_neg k7,if_neg pE,if_neg fX,if_neg qD,if_pos rO]
 have e2:isOk name=true:=by unfold isOk;simp [rO]
 exact ⟨(by rw [e1,e2];all_goals exact gB (by (first|rfl|(rw [Bool.eq_iff_iff];(try simp only [jk,jt,gR,Bool.or_eq_true,Bool.and_eq_true,Bool.not_eq_true',decide_eq_true_eq,decide_eq_false_iff_not,Bool.false_eq_true,iff_false,iff_true,true_iff,false_iff] at*);omega)))),bW.af⟩
 refine cv 13 [5,4] (h:=gh 1 (h:=?_))
 have e1:dI name b=(decide (33≤b∧b≤126)&& !jk b&& !jt b&& !gR b):=by unfold dI;rw [if_neg oC,if_neg kH,if_neg lz,if_neg k7,if_neg pE,if_neg fX,if_neg qD,if_pos rO]
 have e2:isOk name=true:=by unfold isOk;simp [rO]
 exact ⟨(by rw [e1,e2];all_goals exact gB (by (first|rfl|(rw [Bool.eq_iff_iff];(try simp only [jk,jt,gR,Bool.or_eq_true,Bool.and_eq_true,Bool.not_eq_true',decide_eq_true_eq,decide_eq_false_iff_not,Bool.false_eq_true,iff_false,iff_true,true_iff,false_iff] at*);omega)))),H9.af⟩
 refine cv 18 [5,4] (h:=gh 1 (h:=?_))
 have e1:dI name b=(decide (33≤b∧b≤126)&& !jk b&& !jt b&& !gR b):=by unfold dI;rw [if_neg oC,if_neg kH,if_neg lz,if_neg k7,if_neg pE,if_neg fX,if_neg qD,if_pos rO]
 have e2:isOk name=true:=by unfold isOk;simp [rO]
 exact ⟨(by rw [e1,e2];all_goals exact gB (by (first|rfl|(rw [Bool.eq_iff_iff];(try simp only [jk,jt,gR,Bool.or_eq_true,Bool.and_eq_true,Bool.not_eq_true',decide_eq_true_eq,decide_eq_false_iff_not,Bool.false_eq_true,iff_false,iff_true,true_iff,false_iff] at*);omega)))),H0.af⟩
 refine cv 22 [5,4] (h:=gh 1 (h:=?_))
 have e1:dI name b=(decide (33≤b∧b≤126)&& !jk b&& !jt b&& !gR b):=by unfold dI;rw [if_neg oC,if_neg kH,if_neg lz,if_neg k7,if_neg pE,if_neg fX,if_neg qD,if_pos rO]
 have e2:isOk name=true:=by unfold isOk;simp [rO]
 exact ⟨(by rw [e1,e2];all_goals exact gB (by (first|rfl|(rw [Bool.eq_iff_iff];(try simp only [jk,jt,gR,Bool.or_eq_true,Bool.and_eq_true,Bool.not_eq_true',decide_eq_true_eq,decide_eq_false_iff_not,Bool.false_eq_true,iff_false,iff_true,true_iff,false_iff] at*);omega)))),H0.af⟩
 refine aC 6 (fun je=>?_) fun je=>?_
 refine b9 5 86 (fun g33=>?_) fun g33=>?_
 refine gh 8 (h:=?_)
 have e1:dI name b=(decide (33≤b∧b≤126)):=by unfold dI;rw [if_neg oC,if_neg kH,if_neg lz,if_neg k7,if_neg pE,if_neg fX,if_neg qD,if_neg rO,if_pos je]
 have e2:isOk name=true:=by unfold isOk;simp [je]
 exact ⟨(by rw [e1,e2];all_goals exact gB (by (first|rfl|(rw [Bool.eq_iff_iff];(try simp only [jk,jt,gR,Bool.or_eq_true,Bool.and_eq_true,Bool.not_eq_true',decide_eq_true_eq,decide_eq_false_iff_not,Bool.false_eq_true,iff_false,iff_true,true_iff,false_iff] at*);omega)))),H0.af⟩
 refine gh 8 (h:=?_)
 have e1:dI name b=(decide (33≤b∧b≤126)):=by unfold dI;rw [if_neg oC,if_neg kH,if_neg lz,if_neg k7,if_neg pE,if_neg fX,if_neg qD,if_neg rO,if_pos je]
 have e2:isOk name=true:=by unfold isOk;simp [je]
 exact ⟨(by rw [e1,e2];all_goals exact gB (by (first|rfl|(rw [Bool.eq_iff_iff];(try simp only [jk,jt,gR,Bool.or_eq_true,Bool.and_eq_true,Bool.not_eq_true',decide_eq_true_eq,decide_eq_false_iff_not,Bool.false_eq_true,iff_false,iff_true,true_iff,false_iff] at*);omega)))),H0.af⟩
 refine aC 6 (fun Gb=>?_) fun Gb=>?_
 refine b9 5 94 (fun g35=>?_) fun g35=>?_
 refine cv 7 [5,4] (h:=gh 1 (h:=?_))
 have e1:dI name b=(decide (32≤b∧b≤126)):=by unfold dI;rw [if_neg oC,if_neg kH,if_neg lz,if_neg k7,if_neg pE,if_neg fX,if_neg qD,if_neg rO,if_neg je,if_pos Gb]
 have e2:isOk name=true:=by unfold isOk;simp [Gb]
 exact ⟨(by rw [e1,e2];all_goals exact gB (by (first|rfl|(rw [Bool.eq_iff_iff];(try simp only [jk,jt,gR,Bool.or_eq_true,Bool.and_eq_true,Bool.not_eq_true',decide_eq_true_eq,decide_eq_false_iff_not,Bool.false_eq_true,iff_false,iff_true,true_iff,false_iff] at*);omega)))),H0.af⟩
 refine cv 7 [5,4] (h:=gh 1 (h:=?_))
 have e1:dI name b=(decide (32≤b∧b≤126)):=by unfold dI;rw [if_neg oC,if_neg kH,if_neg lz,if_neg k7,if_neg pE,if_neg fX,if_neg qD,if_neg rO,if_neg je,if_pos Gb]
 have e2:isOk name=true:=by unfold isOk;simp [Gb]
 exact ⟨(by rw [e1,e2];all_goals exact gB (by (first|rfl|(rw [Bool.eq_iff_iff];(try simp only [jk,jt,gR,Bool.or_eq_true,Bool.and_eq_true,Bool.not_eq_true',decide_eq_true_eq,decide_eq_false_iff_not,Bool.false_eq_true,iff_false,iff_true,true_iff,false_iff] at*);omega)))),H0.af⟩
 refine aC 6 (fun AP=>?_) fun AP=>?_
 refine b9 5 102 (fun g37=>?_) fun g37=>?_
 refine cv 7 [5,4] (h:=gh 1 (h:=?_))
 have e1:dI name b=(decide (b<32∨b=127)):=by unfold dI;rw [if_neg oC,if_neg kH,if_neg lz,if_neg k7,if_neg pE,if_neg fX,if_neg qD,if_neg rO,if_neg je,if_neg Gb,if_pos AP]
 have e2:isOk name=true:=by unfold isOk;simp [AP]
 exact ⟨(by rw [e1,e2];all_goals exact gB (by (first|rfl|(rw [Bool.eq_iff_iff];(try simp only [jk,jt,gR,Bool.or_eq_true,Bool.and_eq_true,Bool.not_eq_true',decide_eq_true_eq,decide_eq_false_iff_not,Bool.false_eq_true,iff_false,iff_true,true_iff,false_iff] at*);omega)))),H0.af⟩
 refine cv 7 [5,4] (h:=gh 1 (h:=?_))
 have e1:dI name b=(decide (b<32∨b=127)):=by unfold dI;rw [if_neg oC,if_neg kH,if_neg lz,if_neg k7,if_neg pE,if_neg fX,if_neg qD,if_neg rO,if_neg je,if_neg Gb,if_pos AP]
 have e2:isOk name=true:=by unfold isOk;simp [AP]
 exact ⟨(by rw [e1,e2];all_goals exact gB (by (first|rfl|(rw [Bool.eq_iff_iff];(try simp only [jk,jt,gR,Bool.or_eq_true,Bool.and_eq_true,Bool.not_eq_true',decide_eq_true_eq,decide_eq_false_iff_not,Bool.false_eq_true,iff_false,iff_true,true_iff,false_iff] at*);omega)))),H0.af⟩
 refine aC 6 (fun wP=>?_) fun wP=>?_
 refine ab 3 (h:=aA (c:=sQ b w) (k:=?_))
 rintro _ jz ⟨rfl,tV⟩
 have ck:=H0.call tV
 refine iX 1 110 (fun g39=>?_) fun g39=>?_
 refine cv 19 [5,4] (h:=gh 1 (h:=?_))
 have e1:dI name b=(gR b||decide (65≤b∧b≤70∨97≤b∧b≤102)):=by unfold dI;rw [if_neg oC,if_neg kH,if_neg lz,if_neg k7,if_neg pE,if_neg fX,if_neg qD,if_neg rO,if_neg je,if_neg Gb,if_neg AP,if_pos wP]
 have e2:isOk name=true:=by unfold isOk;simp [wP]
 exact ⟨(by rw [e1,e2];all_goals exact gB (by (first|rfl|(rw [Bool.eq_iff_iff];(try simp only [jk,jt,gR,Bool.or_eq_true,Bool.and_eq_true,Bool.not_eq_true',decide_eq_true_eq,decide_eq_false_iff_not,Bool.false_eq_true,iff_false,iff_true,true_iff,false_iff] at*);omega)))),ck.af⟩
 refine b9 3 113 (fun ado=>?_) fun ado=>?_
 refine b9 5 118 (fun MZ=>?_) fun MZ=>?_
 refine cv 11 [5,4] (h:=gh 1 (h:=?_))
 have e1:dI name b=(gR b||decide (65≤b∧b≤70∨97≤b∧b≤102)):=by unfold dI;rw [if_neg oC,if_neg kH,if_neg lz,if_neg k7,if_neg pE,if_neg fX,if_neg qD,if_neg rO,if_neg je,if_neg Gb,if_neg AP,if_pos wP]
 have e2:isOk name=true:=by unfold isOk;simp [wP]
 exact ⟨(by rw [e1,e2];all_goals exact gB (by (first|rfl|(rw [Bool.eq_iff_iff];(try simp only [jk,jt,gR,Bool.or_eq_true,Bool.and_eq_true,Bool.not_eq_true',decide_eq_true_eq,decide_eq_false_iff_not,Bool.false_eq_true,iff_false,iff_true,true_iff,false_iff] at*);omega)))),ck.af⟩
 refine b9 3 121 (fun TV=>?_) fun TV=>?_
 refine cv 8 [5,4] (h:=gh 1 (h:=?_))
 have e1:dI name b=(gR b||decide (65≤b∧b≤70∨97≤b∧b≤102)):=by unfold dI;rw [if_neg oC,if_neg kH,if_neg lz,if_neg k7,if_neg pE,if_neg fX,if_neg qD,if_neg rO,if_neg je,if_neg Gb,if_neg AP,if_pos wP]
 have e2:isOk name=true:=by unfold isOk;simp [wP]
 exact ⟨(by rw [e1,e2];all_goals exact gB (by (first|rfl|(rw [Bool.eq_iff_iff];(try simp only [jk,jt,gR,Bool.or_eq_true,Bool.and_eq_true,Bool.not_eq_true',decide_eq_true_eq,decide_eq_false_iff_not,Bool.false_eq_true,iff_false,iff_true,true_iff,false_iff] at*);omega)))),ck.af⟩
 refine cv 8 [5,4] (h:=gh 1 (h:=?_))
 have e1:dI name b=(gR b||decide (65≤b∧b≤70∨97≤b∧b≤102)):=by unfold dI;rw [if_neg oC,if_neg kH,if_neg lz,if_neg k7,if_neg pE,if_neg fX,if_neg qD,if_neg rO,if_neg je,if_neg Gb,if_neg AP,if_pos wP]
 have e2:isOk name=true:=by unfold isOk;simp [wP]
 exact ⟨(by rw [e1,e2];all_goals exact gB (by (first|rfl|(rw [Bool.eq_iff_iff];(try simp only [jk,jt,gR,Bool.or_eq_true,Bool.and_eq_true,Bool.not_eq_true',decide_eq_true_eq,decide_eq_false_iff_not,Bool.false_eq_true,iff_false,iff_true,true_iff,false_iff] at*);omega)))),ck.af⟩
 refine b9 8 121 (fun MZ=>?_) fun MZ=>?_
 refine cv 8 [5,4] (h:=gh 1 (h:=?_))
 have e1:dI name b=(gR b||decide (65≤b∧b≤70∨97≤b∧b≤102)):=by unfold dI;rw [if_neg oC,if_neg kH,if_neg lz,if_neg k7,if_neg pE,if_neg fX,if_neg qD,if_neg rO,if_neg je,if_neg Gb,if_neg AP,if_pos wP]
 have e2:isOk name=true:=by unfold isOk;simp [wP]
 exact ⟨(by rw [e1,e2];all_goals exact gB (by (first|rfl|(rw [Bool.eq_iff_iff];(try simp only [jk,jt,gR,Bool.or_eq_true,Bool.and_eq_true,Bool.not_eq_true',decide_eq_true_eq,decide_eq_false_iff_not,Bool.false_eq_true,iff_false,iff_true,true_iff,false_iff] at*);omega)))),ck.af⟩
 refine cv 8 [5,4] (h:=gh 1 (h:=?_))
 have e1:dI name b=(gR b||decide (65≤b∧b≤70∨97≤b∧b≤102)):=by unfold dI;rw [if_neg oC,if_neg kH,if_neg lz,if_neg k7,if_neg pE,if_neg fX,if_neg qD,if_neg rO,if_neg je,if_neg Gb,if_neg AP,if_pos wP]
 have e2:isOk name=true:=by unfold isOk;simp [wP]
 exact ⟨(by rw [e1,e2];all_goals exact gB (by (first|rfl|(rw [Bool.eq_iff_iff];(try simp only [jk,jt,gR,Bool.or_eq_true,Bool.and_eq_true,Bool.not_eq_true',decide_eq_true_eq,decide_eq_false_iff_not,Bool.false_eq_true,iff_false,iff_true,true_iff,false_iff] at*);omega)))),ck.af⟩
 refine gh 10 (h:=?_)
 have e1:dI name b=(false):=by unfold dI;rw [if_neg oC,if_neg kH,if_neg lz,if_neg k7,if_neg pE,if_neg fX,if_neg qD,if_neg rO,if_neg je,if_neg Gb,if_neg AP,if_neg wP]
 have e2:isOk name=false:=by unfold isOk;simp [oC,kH,lz,k7,pE,fX,qD,rO,je,Gb,AP,wP]
 exact ⟨(by rw [e1,e2];all_goals exact gB (by (first|rfl|(rw [Bool.eq_iff_iff];(try simp only [jk,jt,gR,Bool.or_eq_true,Bool.and_eq_true,Bool.not_eq_true',decide_eq_true_eq,decide_eq_false_iff_not,Bool.false_eq_true,iff_false,iff_true,true_iff,false_iff] at*);omega)))),H0.af⟩
theorem EB (name:ByteArray) (w:World):
 Calls Tryz.prog 167 #[.string name] w (aX fun v w'=>v= .tuple #[.agg #[aj (cJ (dI name)).w0,aj (cJ (dI name)).w1,aj (cJ (dI name)).w2,aj (cJ (dI name)).w3],.bool (isOk name)]∧ax w [] w' []):=by
 refine cH Tryz.func167 (h:=fun H0=>ab 2 (h:=dB H0 (k:=fun w1 H1=>ab 5 (h:=dB H1 (k:=fun w2 H2=>ab 5 (h:=aA (c:=Ag _ 0 w2) (k:=?_)))))))
 rintro _ w3 ⟨rfl,u3⟩
 have H3:=H2.call u3
 have H4:=H3.ps [1,0]
 refine dA 14 [7,6,4,3,2,0] (fun B R L m e v=>∃k,∃r:Bs,e=(7,b7 k)::B∧av w L v ([aQ w1.heap.size #[aj r.w0,aj r.w1,aj r.w2,aj r.w3] 87]::R)∧(k≤256)∧(∀x,x<256→r.has x=(decide (x<k)&&dI name x))∧m=256-k) (i:=⟨0,Bs.zero,rfl,H4,om,(by intro x hx;rw [dz];simp),rfl⟩) (h:=?_)
 rintro m1 Γ1 w4 ⟨k,r,rfl,H5,hk,hr,rfl⟩
 refine aC 7 (fun QH=>?_) fun QH=>?_
 refine ab 8 (h:=aA (c:=Ag _ k w4) (k:=?_))
 rintro _ w5 ⟨rfl,u4⟩
 have H6:=H5.call u4
 refine dv 12 (fun UJ=>?_) fun UJ=>?_
 refine ab 1 (h:=cd (H6.b 0) (k:=ab 1 (h:=aA (c:=n6 r _ k w5 oz oz) (k:=?_))))
 rintro _ w6 ⟨rfl,u5⟩
 have H7:=H6.call u5
 exact aY 0 (h:=bL H7 0 (k:=fun w7 H8=>ab 5 (h:=aV (k:=cm 2 (h:=by exact ⟨k+1,(jy r k),rfl,H8,om,(by first|exact kS oz UJ hr|exact nZ (by simpa using UJ) hr),rfl⟩)))))
 exact ab 5 (h:=aV (k:=cm 2 (h:=by exact ⟨k+1,r,rfl,H6,om,(by first|exact kS oz UJ hr|exact nZ (by simpa using UJ) hr),rfl⟩)))
 refine ab 4 (h:=cd (H5.b 0) (k:=aY 1 (h:=bL H5 1 (k:=fun w8 H9=>gG 4 (h1:=cS (H9.b 1)) (h2:=dc) (h:=?_)))))
 have e:r=cJ (dI name):=ov fun x hx=>by rw [hr x hx,decide_eq_true oz,Bool.true_and]
 exact ⟨(by first|(rw [e];done)|(rw [e];rfl)),H9.af⟩
theorem Ly (c:Nat) (w:World):
 Calls Tryz.prog 137 #[b7 c] w (aX fun v w'=>v= .tuple #[.agg #[aj (cJ (ju c)).w0,aj (cJ (ju c)).w1,aj (cJ (ju c)).w2,aj (cJ (ju c)).w3],.bool (decide (cJ (ju c)≠Bs.zero))]∧ax w [] w' []):=by
 refine cH Tryz.func137 (h:=fun H0=>ab 2 (h:=dB H0 (k:=fun w1 H1=>ab 5 (h:=dB H1 (k:=fun w2 H2=>?_)))))
 have H3:=H2.ps [1,0]
 refine dA 9 [5,4,3,2,0] (fun B R L m e v=>∃k,∃r:Bs,e=(5,b7 k)::B∧av w L v ([aQ w1.heap.size #[aj r.w0,aj r.w1,aj r.w2,aj r.w3] 87]::R)∧(k≤256)∧(∀x,x<256→r.has x=(decide (x<k)&&ju c x))∧m=256-k) (i:=⟨0,Bs.zero,rfl,H3,om,(by intro x hx;rw [dz];simp),rfl⟩) (h:=?_)
 rintro m1 Γ1 w3 ⟨k,r,rfl,H4,hk,hr,rfl⟩
 refine aC 7 (fun R2=>?_) fun R2=>?_
 refine ab 7 (h:=aA (c:=Ag _ k w3) (k:=?_))
 rintro _ w4 ⟨rfl,u3⟩
 have H5:=H4.call u3
 refine ab 10 (h:=aA (c:=Ag _ k w4) (k:=?_))
 rintro _ w5 ⟨rfl,u4⟩
 have H6:=H5.call u4
 refine o9 12 [5,4,3,2,0] 0 H6 (fun B R L e v=>∃q:Bool,e=(10,.bool q)::B∧av w L v (R)∧(q=ju c k)) ?_ ?_
 refine aC 12 (fun Y5=>?_) fun Y5=>?_
 exact cA 6 (h:=by exact ⟨decide (((k:Nat):Int)=(10:Int)),rfl,H6,(by rw [show ju c k=(decide (k=10)) by unfold ju;rw [if_pos oz]];all_goals (first|rfl|(simp_all;done)|(rw [Bool.eq_iff_iff];simp only [Bool.or_eq_true,Bool.and_eq_true,Bool.not_eq_true',decide_eq_true_eq,decide_eq_false_iff_not,ne_eq];first|omega|(simp_all;omega))))⟩)
 refine aC 6 (fun KJ=>?_) fun KJ=>?_
 exact cA 6 (h:=by exact ⟨decide (((k:Nat):Int)=(9:Int)),rfl,H6,(by rw [show ju c k=(decide (k=9)) by unfold ju;rw [if_neg oz,if_pos oz]];all_goals (first|rfl|(simp_all;done)|(rw [Bool.eq_iff_iff];simp only [Bool.or_eq_true,Bool.and_eq_true,Bool.not_eq_true',decide_eq_true_eq,decide_eq_false_iff_not,ne_eq];first|omega|(simp_all;omega))))⟩)
 refine aC 6 (fun Kd=>?_) fun Kd=>?_
 exact cA 6 (h:=by exact ⟨decide (((k:Nat):Int)=(13:Int)),rfl,H6,(by rw [show ju c k=(decide (k=13)) by unfold ju;rw [if_neg oz,if_neg oz,if_pos oz]];all_goals (first|rfl|(simp_all;done)|(rw [Bool.eq_iff_iff];simp only [Bool.or_eq_true,Bool.and_eq_true,Bool.not_eq_true',decide_eq_true_eq,decide_eq_false_iff_not,ne_eq];first|omega|(simp_all;omega))))⟩)
 refine cv 6 [45,25,8,6,5,4,3,2,0] (h:=aC 0 (fun UH=>?_) fun UH=>?_)
 refine ab 2 (h:=aA (c:=sQ k w5) (k:=?_))
 rintro _ w6 ⟨rfl,u5⟩
 have H7:=H6.call u5
 exact cA 3 (h:=by exact ⟨gR k,rfl,H7,(by rw [show ju c k=(gR k) by unfold ju;rw [if_neg oz,if_neg oz,if_neg oz,if_pos oz]];all_goals (first|rfl|(simp_all;done)|(rw [Bool.eq_iff_iff];simp only [Bool.or_eq_true,Bool.and_eq_true,Bool.not_eq_true',decide_eq_true_eq,decide_eq_false_iff_not,ne_eq];first|omega|(simp_all;omega))))⟩)
 refine aC 6 (fun UG=>?_) fun UG=>?_
 refine ab 2 (h:=aA (c:=sQ k w5) (k:=?_))
 rintro _ w7 ⟨rfl,u6⟩
 have H8:=H6.call u6
 exact cA 4 (h:=by exact ⟨!(gR k),rfl,H8,(by rw [show ju c k=(!gR k) by unfold ju;rw [if_neg oz,if_neg oz,if_neg oz,if_neg oz,if_pos oz]];all_goals (first|rfl|(simp_all;done)|(rw [Bool.eq_iff_iff];simp only [Bool.or_eq_true,Bool.and_eq_true,Bool.not_eq_true',decide_eq_true_eq,decide_eq_false_iff_not,ne_eq];first|omega|(simp_all;omega))))⟩)
 refine aC 6 (fun UF=>?_) fun UF=>?_
 exact cA 5 (h:=by exact ⟨dI ⟨#[115,112,97,99,101]⟩ k,rfl,H6,(by rw [show ju c k=(dI ⟨#[115,112,97,99,101]⟩ k) by unfold ju;rw [if_neg oz,if_neg oz,if_neg oz,if_neg oz,if_neg oz,if_pos oz]];all_goals (first|rfl|(simp_all;done)|(rw [Bool.eq_iff_iff];simp only [Bool.or_eq_true,Bool.and_eq_true,Bool.not_eq_true',decide_eq_true_eq,decide_eq_false_iff_not,ne_eq];first|omega|(simp_all;omega))))⟩)
 refine aC 6 (fun VV=>?_) fun VV=>?_
 exact cA 6 (h:=by exact ⟨!(dI ⟨#[115,112,97,99,101]⟩ k),rfl,H6,(by rw [show ju c k=(!dI ⟨#[115,112,97,99,101]⟩ k) by unfold ju;rw [if_neg oz,if_neg oz,if_neg oz,if_neg oz,if_neg oz,if_neg oz,if_pos oz]];all_goals (first|rfl|(simp_all;done)|(rw [Bool.eq_iff_iff];simp only [Bool.or_eq_true,Bool.and_eq_true,Bool.not_eq_true',decide_eq_true_eq,decide_eq_false_iff_not,ne_eq];first|omega|(simp_all;omega))))⟩)
 refine aC 6 (fun UE=>?_) fun UE=>?_
 refine iX 3 64 (fun g80=>?_) fun g80=>?_
 exact cA 6 (h:=by exact ⟨true,rfl,H6,(by rw [show ju c k=(dI ⟨#[97,108,110,117,109]⟩ k||decide (k=95)) by unfold ju;rw [if_neg oz,if_neg oz,if_neg oz,if_neg oz,if_neg oz,if_neg oz,if_neg oz,if_pos oz]];all_goals (first|rfl|(simp_all;done)|(rw [Bool.eq_iff_iff];simp only [Bool.or_eq_true,Bool.and_eq_true,Bool.not_eq_true',decide_eq_true_eq,decide_eq_false_iff_not,ne_eq];first|omega|(simp_all;omega))))⟩)
 exact cA 6 (h:=by exact ⟨decide (((k:Nat):Int)=(95:Int)),rfl,H6,(by rw [show ju c k=(dI ⟨#[97,108,110,117,109]⟩ k||decide (k=95)) by unfold ju;rw [if_neg oz,if_neg oz,if_neg oz,if_neg oz,if_neg oz,if_neg oz,if_neg oz,if_pos oz]];all_goals (first|rfl|(simp_all;done)|(rw [Bool.eq_iff_iff];simp only [Bool.or_eq_true,Bool.and_eq_true,Bool.not_eq_true',decide_eq_true_eq,decide_eq_false_iff_not,ne_eq];first|omega|(simp_all;omega))))⟩)
 refine aC 6 (fun Kc=>?_) fun Kc=>?_
 refine iX 4 72 (fun g82=>?_) fun g82=>?_
 exact cA 6 (h:=by exact ⟨decide (((k:Nat):Int)≠(95:Int)),rfl,H6,(by rw [show ju c k=(!dI ⟨#[97,108,110,117,109]⟩ k&&decide (k≠95)) by unfold ju;rw [if_neg oz,if_neg oz,if_neg oz,if_neg oz,if_neg oz,if_neg oz,if_neg oz,if_neg oz,if_pos oz]];all_goals (first|rfl|(simp_all;done)|(rw [Bool.eq_iff_iff];simp only [Bool.or_eq_true,Bool.and_eq_true,Bool.not_eq_true',decide_eq_true_eq,decide_eq_false_iff_not,ne_eq];first|omega|(simp_all;omega))))⟩)
 exact cA 6 (h:=by exact ⟨false,rfl,H6,(by rw [show ju c k=(!dI ⟨#[97,108,110,117,109]⟩ k&&decide (k≠95)) by unfold ju;rw [if_neg oz,if_neg oz,if_neg oz,if_neg oz,if_neg oz,if_neg oz,if_neg oz,if_neg oz,if_pos oz]];all_goals (first|rfl|(simp_all;done)|(rw [Bool.eq_iff_iff];simp only [Bool.or_eq_true,Bool.and_eq_true,Bool.not_eq_true',decide_eq_true_eq,decide_eq_false_iff_not,ne_eq];first|omega|(simp_all;omega))))⟩)
 refine b9 5 29 (fun g84=>?_) fun g84=>?_
 exact cA 6 (h:=by exact ⟨!(dI ⟨#[97,108,110,117,109]⟩ k),rfl,H6,(by rw [show ju c k=(decide (k=c)&& !dI ⟨#[97,108,110,117,109]⟩ k) by unfold ju;rw [if_neg oz,if_neg oz,if_neg oz,if_neg oz,if_neg oz,if_neg oz,if_neg oz,if_neg oz,if_neg oz]];all_goals (first|rfl|(simp_all;done)|(rw [Bool.eq_iff_iff];simp only [Bool.or_eq_true,Bool.and_eq_true,Bool.not_eq_true',decide_eq_true_eq,decide_eq_false_iff_not,ne_eq];first|omega|(simp_all;omega))))⟩)
 exact cA 6 (h:=by exact ⟨false,rfl,H6,(by rw [show ju c k=(decide (k=c)&& !dI ⟨#[97,108,110,117,109]⟩ k) by unfold ju;rw [if_neg oz,if_neg oz,if_neg oz,if_neg oz,if_neg oz,if_neg oz,if_neg oz,if_neg oz,if_neg oz]];all_goals (first|rfl|(simp_all;done)|(rw [Bool.eq_iff_iff];simp only [Bool.or_eq_true,Bool.and_eq_true,Bool.not_eq_true',decide_eq_true_eq,decide_eq_false_iff_not,ne_eq];first|omega|(simp_all;omega))))⟩)
 rintro Γ2 w8 ⟨q,rfl,H9,hq⟩
 refine dv 5 (fun UC=>?_) fun UC=>?_
 refine ab 1 (h:=cd (H9.b 0) (k:=ab 1 (h:=aA (c:=n6 r _ k w8 oz oz) (k:=?_))))
 rintro _ w9 ⟨rfl,u7⟩
 have bW:=H9.call u7
 exact aY 0 (h:=bL bW 0 (k:=fun iy bP=>ab 5 (h:=aV (k:=cm 2 (h:=by exact ⟨k+1,(jy r k),rfl,bP,om,(by first|exact kS oz (by rw [←hq];exact UC) hr|exact nZ (by rw [←hq];simpa using UC) hr),rfl⟩)))))
 exact ab 5 (h:=aV (k:=cm 2 (h:=by exact ⟨k+1,r,rfl,H9,om,(by first|exact kS oz (by rw [←hq];exact UC) hr|exact nZ (by rw [←hq];simpa using UC) hr),rfl⟩)))
 refine fI 3 H4 (h:=fun gS ck=>c7 0 0 (ck.b 0) (D:=fun _ hC=>cd hC) (h:=c7 0 1 (ck.b 0) (D:=fun _ hC=>cd hC) (h:=gk 0 2 (D:=fun _=>cu (us:=[aj Bs.zero.w0,aj Bs.zero.w1,aj Bs.zero.w2,aj Bs.zero.w3])) (h:=?_))))
 refine nJ 0 3 ⟨_,_,_,rfl,rfl,rfl,rfl,rfl,rfl⟩ (fun _=>FW r Bs.zero rfl rfl Tryz.underlying87 Tryz.underlying85 kc iA ⟨rfl,rfl⟩) (dj 0 4 (D:=bL ck 1 (k:=fun jz cU=>?_)))
 refine ⟨⟨trivial,trivial,(cU.b 0),trivial⟩,?_⟩
 refine gG 4 (h1:=cS (cU.b 1)) (h2:=dc) (h:=?_)
 have e:r=cJ (ju c):=ov fun x hx=>by rw [hr x hx,decide_eq_true oz,Bool.true_and]
 exact ⟨(by first|(rw [e];done)|(rw [e];rfl)),cU.af⟩
end Go.Proofs.YtpbgmkhmdbchpaaGreatDoor
namespace Go.Proofs
open Go.Shelf
def Tryz.CF:Go.Shelf.Ren:=⟨fun|145=>193|220=>202|219=>216|217=>223|225=>224|224=>225|267=>226|266=>228|314=>229|n=>n,fun|9=>9|4=>4|59=>279|3=>3|5=>5|46=>165|146=>313|51=>300|n=>n,fun|1=>1|n=>n⟩
theorem Tryz.Pz:Go.Proofs.Lays.n145 Tryz.prog Tryz.CF:= {
  mixed:=by kernel_rfl
  f145:=Tryz.func193.trans (congrArg some (by kernel_rfl))
  f217:=Tryz.func223.trans (congrArg some (by kernel_rfl))
  f219:=Tryz.func216.trans (congrArg some (by kernel_rfl))
  f220:=Tryz.func202.trans (congrArg some (by kernel_rfl))
  f224:=Tryz.func225.trans (congrArg some (by kernel_rfl))
  f225:=Tryz.func224.trans (congrArg some (by kernel_rfl))
  f266:=Tryz.func228.trans (congrArg some (by kernel_rfl))
  f267:=Tryz.func226.trans (congrArg some (by kernel_rfl))
  f314:=Tryz.func229.trans (congrArg some (by kernel_rfl))
  t3:=Tryz.underlying3
  a3:=Tryz.isAgg3
  z3:=Tryz.sizeOf3
  v3:=Tryz.zeroValue3
  t4:=Tryz.underlying4
  a4:=Tryz.isAgg4
  z4:=Tryz.sizeOf4
  v4:=Tryz.zeroValue4
  t5:=Tryz.underlying5
  a5:=Tryz.isAgg5
  z5:=Tryz.sizeOf5
  v5:=Tryz.zeroValue5
  t9:=Tryz.underlying9
  a9:=Tryz.isAgg9
  z9:=Tryz.sizeOf9
  v9:=Tryz.zeroValue9
  t46:=Tryz.underlying165
  a46:=Tryz.isAgg165
  z46:=Tryz.sizeOf165
  v46:=Tryz.zeroValue165
  t51:=Tryz.underlying300
  a51:=Tryz.isAgg300
  z51:=Tryz.sizeOf300
  v51:=Tryz.zeroValue300
  t59:=Tryz.underlying279
  a59:=Tryz.isAgg279
  z59:=Tryz.sizeOf279
  v59:=Tryz.zeroValue279
  t146:=Tryz.underlying313
  a146:=Tryz.isAgg313
  z146:=Tryz.sizeOf313
  v146:=Tryz.zeroValue313
  g1:=by kernel_rfl }
open Go.RowKit Go.Lib in
theorem Tryz.strings_Cut (s sep:ByteArray) (m:Int) (w:World) (hs:s.size<4294967281) (hm:w.cell? ⟨1,0,none⟩=some (.int .i64 m)):
    Calls Tryz.prog 193 #[.string s,.string sep] w fun e w'=>e= .returned (.tuple #[.string ⟨(Lib.cut s.data.toList sep.data.toList).1.toArray⟩,.string ⟨(Lib.cut s.data.toList sep.data.toList).2.1.toArray⟩,.bool (Lib.cut s.data.toList sep.data.toList).2.2])∧∃n,w'=w.drewN n:=Any.strings_Cut Tryz.Pz s sep m w hs hm
def Tryz.CE:Go.Shelf.Ren:=⟨fun|189=>187|125=>200|257=>199|128=>214|129=>215|294=>205|295=>206|296=>207|297=>208|298=>209|299=>210|216=>211|300=>212|301=>213|328=>217|329=>218|330=>219|331=>220|332=>221|215=>222|343=>227|n=>n,fun|28=>25|3=>3|46=>165|0=>0|51=>300|53=>85|4=>4|183=>293|182=>292|131=>257|5=>5|9=>9|218=>304|222=>308|228=>311|229=>190|n=>n,fun|n=>n⟩
theorem Tryz.Hh:Go.Proofs.Lays.n189 Tryz.prog Tryz.CE:= {
  mixed:=by kernel_rfl
  f125:=Tryz.func200.trans (congrArg some (by kernel_rfl))
  f128:=Tryz.func214.trans (congrArg some (by kernel_rfl))
  f129:=Tryz.func215.trans (congrArg some (by kernel_rfl))
  f189:=Tryz.func187.trans (congrArg some (by kernel_rfl))
  f215:=Tryz.func222.trans (congrArg some (by kernel_rfl))
  f216:=Tryz.func211.trans (congrArg some (by kernel_rfl))
  f257:=Tryz.func199.trans (congrArg some (by kernel_rfl))
  f294:=Tryz.func205.trans (congrArg some (by kernel_rfl))
  f295:=Tryz.func206.trans (congrArg some (by kernel_rfl))
  f296:=Tryz.func207.trans (congrArg some (by kernel_rfl))
  f297:=Tryz.func208.trans (congrArg some (by kernel_rfl))
  f298:=Tryz.func209.trans (congrArg some (by kernel_rfl))
  f299:=Tryz.func210.trans (congrArg some (by kernel_rfl))
  f300:=Tryz.func212.trans (congrArg some (by kernel_rfl))
  f301:=Tryz.func213.trans (congrArg some (by kernel_rfl))
  f328:=Tryz.func217.trans (congrArg some (by kernel_rfl))
  f329:=Tryz.func218.trans (congrArg some (by kernel_rfl))
  f330:=Tryz.func219.trans (congrArg some (by kernel_rfl))
  f331:=Tryz.func220.trans (congrArg some (by kernel_rfl))
  f332:=Tryz.func221.trans (congrArg some (by kernel_rfl))
  f343:=Tryz.func227.trans (congrArg some (by kernel_rfl))
  t0:=Tryz.underlying0
  a0:=Tryz.isAgg0
  z0:=Tryz.sizeOf0
  v0:=Tryz.zeroValue0
  t3:=Tryz.underlying3
  a3:=Tryz.isAgg3
  z3:=Tryz.sizeOf3
  v3:=Tryz.zeroValue3
  t4:=Tryz.underlying4
  a4:=Tryz.isAgg4
  z4:=Tryz.sizeOf4
  v4:=Tryz.zeroValue4
  t5:=Tryz.underlying5
  a5:=Tryz.isAgg5
  z5:=Tryz.sizeOf5
  v5:=Tryz.zeroValue5
  t9:=Tryz.underlying9
  a9:=Tryz.isAgg9
  z9:=Tryz.sizeOf9
  v9:=Tryz.zeroValue9
  t28:=Tryz.underlying25
  a28:=Tryz.isAgg25
  z28:=Tryz.sizeOf25
  v28:=Tryz.zeroValue25
  t46:=Tryz.underlying165
  a46:=Tryz.isAgg165
  z46:=Tryz.sizeOf165
  v46:=Tryz.zeroValue165
  t51:=Tryz.underlying300
  a51:=Tryz.isAgg300
  z51:=Tryz.sizeOf300
  v51:=Tryz.zeroValue300
  t53:=Tryz.underlying85
  a53:=Tryz.isAgg85
  z53:=Tryz.sizeOf85
  v53:=Tryz.zeroValue85
  t131:=Tryz.underlying257
  a131:=Tryz.isAgg257
  z131:=Tryz.sizeOf257
  v131:=Tryz.zeroValue257
  t182:=Tryz.underlying292
  a182:=Tryz.isAgg292
  z182:=Tryz.sizeOf292
  v182:=Tryz.zeroValue292
  t183:=Tryz.underlying293
  a183:=Tryz.isAgg293
  z183:=Tryz.sizeOf293
  v183:=Tryz.zeroValue293
  t218:=Tryz.underlying304
  a218:=Tryz.isAgg304
  z218:=Tryz.sizeOf304
  v218:=Tryz.zeroValue304
  t222:=Tryz.underlying308
  a222:=Tryz.isAgg308
  z222:=Tryz.sizeOf308
  v222:=Tryz.zeroValue308
  t228:=Tryz.underlying311
  a228:=Tryz.isAgg311
  z228:=Tryz.sizeOf311
  v228:=Tryz.zeroValue311
  t229:=Tryz.underlying190
  a229:=Tryz.isAgg190
  z229:=Tryz.sizeOf190
  v229:=Tryz.zeroValue190 }
open Go.Sort Go.RowKit in
theorem Tryz.slices_Sort_int (aQ off cap:Nat) (zs:List Int) (w:World) (hH:Holds (Value.int .i64) w aQ off zs.toArray) (ac3:aQ<w.heap.size) (Bc:zs.length<4611686018427387904):
    Calls Tryz.prog 187 #[.slice (some ⟨aQ,off,none⟩) zs.length cap] w fun e w'=>
      e= .returned (.tuple #[])∧∃n os,w'=grow (putRow (Value.int .i64) (Sort.ahead w n) aQ off (zs.mergeSort fun x y=>decide (x≤y)).toArray) os:=Any.slices_Sort_int Tryz.Hh aQ off cap zs w hH ac3 Bc
def Tryz.Fk:Go.Shelf.Ren:=⟨fun|99=>192|206=>201|n=>n,fun|9=>9|4=>4|3=>3|n=>n,fun|n=>n⟩
theorem Tryz.S5:Go.Proofs.Lays.n99 Tryz.prog Tryz.Fk:= {
  mixed:=by kernel_rfl
  f99:=Tryz.func192.trans (congrArg some (by kernel_rfl))
  f206:=Tryz.func201.trans (congrArg some (by kernel_rfl))
  t3:=Tryz.underlying3
  a3:=Tryz.isAgg3
  z3:=Tryz.sizeOf3
  v3:=Tryz.zeroValue3
  t4:=Tryz.underlying4
  a4:=Tryz.isAgg4
  z4:=Tryz.sizeOf4
  v4:=Tryz.zeroValue4
  t9:=Tryz.underlying9
  a9:=Tryz.isAgg9
  z9:=Tryz.sizeOf9
  v9:=Tryz.zeroValue9 }
open Go.RowKit Go.Lib in
theorem Tryz.strings_HasPrefix (s p:ByteArray) (w:World):
    Calls Tryz.prog 192 #[.string s,.string p] w fun e w'=>e= .returned (.bool (Lib.hasPrefix s.data.toList p.data.toList))∧w'=w:=Any.strings_HasPrefix Tryz.S5 s p w
def Tryz.CG:Go.Shelf.Ren:=⟨fun|112=>108|n=>n,fun|28=>25|3=>3|4=>4|0=>0|n=>n,fun|n=>n⟩
theorem Tryz.Hi:Go.Proofs.Lays.n112 Tryz.prog Tryz.CG:= {
  mixed:=by kernel_rfl
  f112:=Tryz.func108.trans (congrArg some (by kernel_rfl))
  t0:=Tryz.underlying0
  a0:=Tryz.isAgg0
  z0:=Tryz.sizeOf0
  v0:=Tryz.zeroValue0
  t3:=Tryz.underlying3
  a3:=Tryz.isAgg3
  z3:=Tryz.sizeOf3
  v3:=Tryz.zeroValue3
  t4:=Tryz.underlying4
  a4:=Tryz.isAgg4
  z4:=Tryz.sizeOf4
  v4:=Tryz.zeroValue4
  t28:=Tryz.underlying25
  a28:=Tryz.isAgg25
  z28:=Tryz.sizeOf25
  v28:=Tryz.zeroValue25 }
open Go.RowKit Go.Lib Go.Sort in
theorem Tryz.slices_Reverse_int (aQ off cap:Nat) (zs:List Int) (w:World) (hH:Holds (Value.int .i64) w aQ off zs.toArray) (Bc:zs.length≤9223372036854775807):
    Calls Tryz.prog 108 #[.slice (some ⟨aQ,off,none⟩) zs.length cap] w fun e w'=>e= .returned (.tuple #[])∧∃n,w'=putRow (Value.int .i64) (Sort.ahead w n) aQ off zs.reverse.toArray:=Any.slices_Reverse_int Tryz.Hi aQ off cap zs w hH Bc
open Go.RowKit Go.Lib Go.Sort in
theorem Tryz.slices_Reverse_int_empty (a:Option Addr) (cap:Nat) (w:World):
    Calls Tryz.prog 108 #[.slice a 0 cap] w fun e w'=>e= .returned (.tuple #[])∧w'=w:=Any.slices_Reverse_int_empty Tryz.Hi a cap w
def Tryz.xH:Go.Shelf.Ren:=⟨fun|20=>188|n=>n,fun|22=>25|3=>3|4=>4|0=>0|n=>n,fun|n=>n⟩
theorem Tryz.yK:Go.Proofs.Lays2.n20 Tryz.prog Tryz.xH:= {
  mixed:=by kernel_rfl
  f20:=Tryz.func188.trans (congrArg some (by kernel_rfl))
  t0:=Tryz.underlying0
  a0:=Tryz.isAgg0
  z0:=Tryz.sizeOf0
  v0:=Tryz.zeroValue0
  t3:=Tryz.underlying3
  a3:=Tryz.isAgg3
  z3:=Tryz.sizeOf3
  v3:=Tryz.zeroValue3
  t4:=Tryz.underlying4
  a4:=Tryz.isAgg4
  z4:=Tryz.sizeOf4
  v4:=Tryz.zeroValue4
  t22:=Tryz.underlying25
  a22:=Tryz.isAgg25
  z22:=Tryz.sizeOf25
  v22:=Tryz.zeroValue25
  i3:=by kernel_rfl }
open Go.RowKit Go.Lib Go.Sort in
theorem Tryz.slices_Compact_int (aQ off cap:Nat) (zs:List Int) (w:World) (hH:Holds (Value.int .i64) w aQ off zs.toArray) (Bc:zs.length≤9223372036854775807) (Ya:zs.length≤cap):
    Calls Tryz.prog 188 #[.slice (some ⟨aQ,off,none⟩) zs.length cap] w fun e w'=>e= .returned (.slice (some ⟨aQ,off,none⟩) (Lib.compact zs).length cap)∧∃q,w'=putRow (Value.int .i64) (Sort.ahead w q) aQ off (Lib.compact zs++List.replicate (zs.length-(Lib.compact zs).length) 0).toArray:=Any.slices_Compact_int Tryz.yK aQ off cap zs w hH Bc Ya
open Go.RowKit Go.Lib Go.Sort in
theorem Tryz.slices_Compact_int_empty (a:Option Addr) (cap:Nat) (w:World):
    Calls Tryz.prog 188 #[.slice a 0 cap] w fun e w'=>e= .returned (.slice a 0 cap)∧w'=w:=Any.slices_Compact_int_empty Tryz.yK a cap w
open Go.RowKit Go.Sort in
theorem Tryz.slices_Sort_int_none (p:Option Addr) (cap:Nat) (w:World):
    Calls Tryz.prog 187 #[.slice p 0 cap] w fun e w'=>e= .returned (.tuple #[])∧w'=w:=Any.slices_Sort_int_none Tryz.Hh p cap w
end Go.Proofs
namespace Go.Proofs.YtpbgmkhmdbchpaaGreatDoor
open Go Go.Sx
theorem BH (a:aP) (xs:List Int) (c:Nat) (n:Nat) (w:World) (hp:Hp w [ag (aw .i64) (.slice a n c) 3 xs]) (hn:n=xs.length) (Bc:xs.length≤1000000000):
    Calls Tryz.prog 187 #[.slice a n c] w (aX fun v w'=>v= .tuple #[]∧ax w [ag (aw .i64) (.slice a n c) 3 xs] w' [ag (aw .i64) (.slice a n c) 3 (nQ xs)]):=by
  subst hn
  have ho:=mw (hp.holds _ (List.mem_singleton.2 rfl))
  cases a with
  | none=>
    have h0:xs=[]:=by
      rcases ho.2 with ⟨_,h⟩|⟨g,cap,cur,h,_⟩
      · exact List.length_eq_zero_iff.1 h
      · cases h
    subst h0
    refine (Tryz.slices_Sort_int_none none c w).mono ?_
    rintro e w' ⟨rfl,rfl⟩
    have e0:nQ []=[]:=by simp [nQ]
    rw [e0]
    exact ⟨_,rfl,rfl,ax.refl hp⟩
  | some ad=>
    obtain ⟨g,hg⟩:∃g,ad=⟨g,0,none⟩:=by
      rcases ho.2 with ⟨h,_⟩|⟨g,cap,cur,h,_⟩
      · cases h
      · cases h;exact ⟨g,rfl⟩
    subst hg
    obtain ⟨hh,cF⟩:=sH ho
    refine (Tryz.slices_Sort_int g 0 c xs w hh cF oz).mono ?_
    rintro e w' ⟨rfl,q,os,rfl⟩
    exact ⟨_,rfl,rfl,zo ho (jT xs)⟩
theorem tM (a:aP) (xs:List Int) (c:Nat) (n:Nat) (w:World) (hp:Hp w [ag (aw .i64) (.slice a n c) 3 xs]) (hn:n=xs.length) (Bc:xs.length≤1000000000):
    Calls Tryz.prog 188 #[.slice a n c] w (aX fun v w'=>v= .slice a (Lib.compact xs).length c∧ax w [ag (aw .i64) (.slice a n c) 3 xs] w' [ag (aw .i64) (.slice a (Lib.compact xs).length c) 3 (Lib.compact xs)]):=by
  subst hn
  have ho:=mw (hp.holds _ (List.mem_singleton.2 rfl))
  cases a with
  | none=>
    have h0:xs=[]:=by
      rcases ho.2 with ⟨_,h⟩|⟨g,cap,cur,h,_⟩
      · exact List.length_eq_zero_iff.1 h
      · cases h
    subst h0
    refine (Tryz.slices_Compact_int_empty none c w).mono ?_
    rintro e w' ⟨rfl,rfl⟩
    have e0:Lib.compact ([]:List Int)=[]:=by simp [Lib.compact,Lib.compactUpTo]
    rw [e0]
    exact ⟨_,rfl,rfl,ax.refl hp⟩
  | some ad=>
    obtain ⟨g,hg⟩:∃g,ad=⟨g,0,none⟩:=by
      rcases ho.2 with ⟨h,_⟩|⟨g,cap,cur,h,_⟩
      · cases h
      · cases h;exact ⟨g,rfl⟩
    subst hg
    obtain ⟨hh,cF⟩:=sH ho
    refine (Tryz.slices_Compact_int g 0 c xs w hh oz (vu ho)).mono ?_
    rintro e w' ⟨rfl,q,rfl⟩
    have hle:=wI xs
    have hu:=zo (q:=q) (os:= #[]) (ys:=Lib.compact xs++List.replicate (xs.length-(Lib.compact xs).length) 0) ho im
    rw [Go.Sort.grow_empty] at hu
    exact ⟨_,rfl,rfl,KS (j:=(Lib.compact xs).length) hu (by simp) (by simp)⟩
theorem ti (a:aP) (xs:List Int) (c:Nat) (n:Nat) (w:World) (hp:Hp w [ag (aw .i64) (.slice a n c) 3 xs]) (hn:n=xs.length) (Bc:xs.length≤1000000000):
    Calls Tryz.prog 108 #[.slice a n c] w (aX fun v w'=>v= .tuple #[]∧ax w [ag (aw .i64) (.slice a n c) 3 xs] w' [ag (aw .i64) (.slice a n c) 3 xs.reverse]):=by
  subst hn
  have ho:=mw (hp.holds _ (List.mem_singleton.2 rfl))
  cases a with
  | none=>
    have h0:xs=[]:=by
      rcases ho.2 with ⟨_,h⟩|⟨g,cap,cur,h,_⟩
      · exact List.length_eq_zero_iff.1 h
      · cases h
    subst h0
    refine (Tryz.slices_Reverse_int_empty none c w).mono ?_
    rintro e w' ⟨rfl,rfl⟩
    exact ⟨_,rfl,rfl,ax.refl hp⟩
  | some ad=>
    obtain ⟨g,hg⟩:∃g,ad=⟨g,0,none⟩:=by
      rcases ho.2 with ⟨h,_⟩|⟨g,cap,cur,h,_⟩
      · cases h
      · cases h;exact ⟨g,rfl⟩
    subst hg
    obtain ⟨hh,cF⟩:=sH ho
    refine (Tryz.slices_Reverse_int g 0 c xs w hh oz).mono ?_
    rintro e w' ⟨rfl,q,rfl⟩
    have hu:=zo (q:=q) (os:= #[]) (ys:=xs.reverse) ho (by simp)
    rw [Go.Sort.grow_empty] at hu
    exact ⟨_,rfl,rfl,hu⟩
end Go.Proofs.YtpbgmkhmdbchpaaGreatDoor
namespace Go.Sx
theorem eR {p:Prop} (h:p:=by simp only [List.length_singleton];omega):p:=h
end Go.Sx
namespace Go.Proofs.YtpbgmkhmdbchpaaGreatDoor
open Go Go.Sx
theorem rQ (kd:Int) (w:World):
 Calls Tryz.prog 55 #[ai kd] w (aX fun v w'=>v=ai (bR kd)∧ax w [] w' []):=by
 refine cH Tryz.func55 (h:=fun H0=>aC 19 (fun c13=>?_) fun c13=>?_)
 refine aC 2 (fun N0=>?_) fun N0=>?_
 exact bE 6 (h:=⟨(by unfold bR;repeat (first|rw [if_pos oz]|rw [if_neg oz])),H0.af⟩)
 exact absurd c13 N0
 refine aC 6 (fun N0=>?_) fun N0=>?_
 refine aC 2 (fun Dx=>?_) fun Dx=>?_
 exact bE 6 (h:=⟨(by unfold bR;repeat (first|rw [if_pos oz]|rw [if_neg oz])),H0.af⟩)
 exact absurd N0 Dx
 refine aC 6 (fun Dx=>?_) fun Dx=>?_
 refine aC 2 (fun AV=>?_) fun AV=>?_
 exact bE 6 (h:=⟨(by unfold bR;repeat (first|rw [if_pos oz]|rw [if_neg oz])),H0.af⟩)
 exact absurd Dx AV
 refine aC 5 (fun AV=>?_) fun AV=>?_
 exact bE 6 (h:=⟨(by unfold bR;repeat (first|rw [if_pos oz]|rw [if_neg oz])),H0.af⟩)
 refine aC 6 (fun xo=>?_) fun xo=>?_
 exact bE 6 (h:=⟨(by unfold bR;repeat (first|rw [if_pos oz]|rw [if_neg oz])),H0.af⟩)
 refine aC 7 (fun c17=>?_) fun c17=>?_
 refine aC 2 (fun QK=>?_) fun QK=>?_
 exact bE 6 (h:=⟨(by unfold bR;repeat (first|rw [if_pos oz]|rw [if_neg oz])),H0.af⟩)
 exact absurd c17 QK
 refine aC 5 (fun QK=>?_) fun QK=>?_
 exact bE 6 (h:=⟨(by unfold bR;repeat (first|rw [if_pos oz]|rw [if_neg oz])),H0.af⟩)
 exact bE 9 (h:=⟨(by unfold bR;repeat (first|rw [if_pos oz]|rw [if_neg oz])),H0.af⟩)
theorem oU (kd:Int) (w:World):
 Calls Tryz.prog 73 #[ai kd] w (aX fun v w'=>v=ai (bR kd)∧ax w [] w' []):=by
 refine cH Tryz.func73 (h:=fun H0=>ab 7 (h:=dL (aw .i64) [-1,0,0,0,0,2,2,1] H0 (k:=fun w1 H1=>b9 9 7 (fun g9=>?_) fun g9=>?_)))
 exact bE 12 (h:=⟨(by unfold bR;repeat (first|rw [if_pos oz]|rw [if_neg oz])),H1.af⟩)
 refine aC 5 (fun c9=>?_) fun c9=>?_
 exact bE 6 (h:=⟨(by unfold bR;repeat (first|rw [if_pos oz]|rw [if_neg oz])),H1.af⟩)
 exact ab 6 (h:=cg kd.toNat (H1.rt 0) (cD:=im) (hj:=im) (k:=ab 0 (h:=cI (H1.rt 0) (hj:=im) (k:=bE 4 (h:=⟨(by rcases (by omega:kd=1∨kd=2∨kd=3∨kd=4∨kd=5∨kd=6∨kd=7) with rfl|rfl|rfl|rfl|rfl|rfl|rfl<;>rfl),H1.af⟩)))))
theorem FL (n:Nd) (w:World):
 Calls Tryz.prog 56 #[.agg #[ai n.kind,aj n.set.w0,aj n.set.w1,aj n.set.w2,aj n.set.w3,ai n.lo,ai n.hi]] w (aX fun v w'=>v= .bool (cW n)∧ax w [] w' []):=by
 refine cH Tryz.func56 (h:=fun H0=>ab 2 (h:=jf H0 (k:=fun w1 H1=>ab 8 (h:=aM (H1.b 0) (k:=b9 2 7 (fun RV=>?_) fun RV=>?_)))))
 refine ab 1 (h:=cd (H1.b 0) (k:=ab 0 (h:=cu (us:=[aj Bs.zero.w0,aj Bs.zero.w1,aj Bs.zero.w2,aj Bs.zero.w3]) (k:=?_))))
 refine aN 0 rfl (FW n.set Bs.zero rfl rfl Tryz.underlying87 Tryz.underlying85 kc iA (aC 4 (fun fX=>?_) fun fX=>?_))
 exact bE 6 (h:=⟨(by congr 1;unfold cW;rw [Bool.eq_iff_iff];simp only [decide_eq_true_eq,Bool.false_eq_true,false_iff,true_iff];first|(simp_all;done)|(simp_all;omega)),H1.af⟩)
 refine ab 3 (h:=aM (H1.b 0) (k:=aC 4 (fun qD=>?_) fun qD=>?_))
 refine ab 3 (h:=aM (H1.b 0) (k:=b9 2 20 (fun Yq=>?_) fun Yq=>?_))
 exact ab 1 (h:=aM (H1.b 0) (k:=bE 6 (h:=⟨(by congr 1;unfold cW;rw [Bool.eq_iff_iff];simp only [decide_eq_true_eq,Bool.false_eq_true,false_iff,true_iff];first|(simp_all;done)|(simp_all;omega)),H1.af⟩)))
 exact bE 8 (h:=⟨(by congr 1;unfold cW;rw [Bool.eq_iff_iff];simp only [decide_eq_true_eq,Bool.false_eq_true,false_iff,true_iff];first|(simp_all;done)|(simp_all;omega)),H1.af⟩)
 refine ab 6 (h:=aM (H1.b 0) (k:=b9 2 28 (fun M0=>?_) fun M0=>?_))
 refine ab 1 (h:=aM (H1.b 0) (k:=b9 3 33 (fun FF=>?_) fun FF=>?_))
 refine ab 1 (h:=aM (H1.b 0) (k:=b9 2 37 (fun C6=>?_) fun C6=>?_))
 exact cv 15 [2] (h:=bE 1 (h:=⟨(by congr 1;unfold cW;rw [Bool.eq_iff_iff];simp only [decide_eq_true_eq,Bool.false_eq_true,false_iff,true_iff];first|(simp_all;done)|(simp_all;omega)),H1.af⟩))
 refine ab 1 (h:=aM (H1.b 0) (k:=ab 1 (h:=aM (H1.b 0) (k:=b9 2 43 (fun wh=>?_) fun wh=>?_))))
 exact ab 1 (h:=aM (H1.b 0) (k:=cv 7 [2] (h:=bE 1 (h:=⟨(by congr 1;unfold cW;rw [Bool.eq_iff_iff];simp only [decide_eq_true_eq,Bool.false_eq_true,false_iff,true_iff];first|(simp_all;done)|(simp_all;omega)),H1.af⟩))))
 exact cv 9 [2] (h:=bE 1 (h:=⟨(by congr 1;unfold cW;rw [Bool.eq_iff_iff];simp only [decide_eq_true_eq,Bool.false_eq_true,false_iff,true_iff];first|(simp_all;done)|(simp_all;omega)),H1.af⟩))
 exact cv 19 [2] (h:=bE 1 (h:=⟨(by congr 1;unfold cW;rw [Bool.eq_iff_iff];simp only [decide_eq_true_eq,Bool.false_eq_true,false_iff,true_iff];first|(simp_all;done)|(simp_all;omega)),H1.af⟩))
 exact cv 24 [2] (h:=bE 1 (h:=⟨(by congr 1;unfold cW;rw [Bool.eq_iff_iff];simp only [decide_eq_true_eq,Bool.false_eq_true,false_iff,true_iff];first|(simp_all;done)|(simp_all;omega)),H1.af⟩))
 refine ab 12 (h:=aM (H1.b 0) (k:=aC 4 (fun qD=>?_) fun qD=>?_))
 refine ab 3 (h:=aM (H1.b 0) (k:=b9 2 20 (fun Yq=>?_) fun Yq=>?_))
 exact ab 1 (h:=aM (H1.b 0) (k:=bE 6 (h:=⟨(by congr 1;unfold cW;rw [Bool.eq_iff_iff];simp only [decide_eq_true_eq,Bool.false_eq_true,false_iff,true_iff];first|(simp_all;done)|(simp_all;omega)),H1.af⟩)))
 exact bE 8 (h:=⟨(by congr 1;unfold cW;rw [Bool.eq_iff_iff];simp only [decide_eq_true_eq,Bool.false_eq_true,false_iff,true_iff];first|(simp_all;done)|(simp_all;omega)),H1.af⟩)
 refine ab 6 (h:=aM (H1.b 0) (k:=b9 2 28 (fun M0=>?_) fun M0=>?_))
 refine ab 1 (h:=aM (H1.b 0) (k:=b9 3 33 (fun FF=>?_) fun FF=>?_))
 refine ab 1 (h:=aM (H1.b 0) (k:=b9 2 37 (fun C6=>?_) fun C6=>?_))
 exact cv 15 [2] (h:=bE 1 (h:=⟨(by congr 1;unfold cW;rw [Bool.eq_iff_iff];simp only [decide_eq_true_eq,Bool.false_eq_true,false_iff,true_iff];first|(simp_all;done)|(simp_all;omega)),H1.af⟩))
 refine ab 1 (h:=aM (H1.b 0) (k:=ab 1 (h:=aM (H1.b 0) (k:=b9 2 43 (fun wh=>?_) fun wh=>?_))))
 exact ab 1 (h:=aM (H1.b 0) (k:=cv 7 [2] (h:=bE 1 (h:=⟨(by congr 1;unfold cW;rw [Bool.eq_iff_iff];simp only [decide_eq_true_eq,Bool.false_eq_true,false_iff,true_iff];first|(simp_all;done)|(simp_all;omega)),H1.af⟩))))
 exact cv 9 [2] (h:=bE 1 (h:=⟨(by congr 1;unfold cW;rw [Bool.eq_iff_iff];simp only [decide_eq_true_eq,Bool.false_eq_true,false_iff,true_iff];first|(simp_all;done)|(simp_all;omega)),H1.af⟩))
 exact cv 19 [2] (h:=bE 1 (h:=⟨(by congr 1;unfold cW;rw [Bool.eq_iff_iff];simp only [decide_eq_true_eq,Bool.false_eq_true,false_iff,true_iff];first|(simp_all;done)|(simp_all;omega)),H1.af⟩))
 exact cv 24 [2] (h:=bE 1 (h:=⟨(by congr 1;unfold cW;rw [Bool.eq_iff_iff];simp only [decide_eq_true_eq,Bool.false_eq_true,false_iff,true_iff];first|(simp_all;done)|(simp_all;omega)),H1.af⟩))
theorem p5 (la:aP) (l:List Nd) (lc:Nat) (w:World) (rl:cP aJ w la l lc):
 Calls Tryz.prog 35 #[aH la l lc] w (aX fun v w'=>v= .bool (dO l)∧ax w [] w' []):=by
 have eI:=rl.le
 refine cH Tryz.func35 (h:=fun H0=>aC 13 (fun AP=>?_) fun AP=>?_)
 refine bE 6 (h:=?_)
 have e:dO l=false:=by unfold dO;rw [decide_eq_false oz];rfl
 exact ⟨(by rw [e]),H0.af⟩
 refine dA 16 [12,3,11,10,2] (fun B R L m e v=>∃k op,e=(12,b7 k)::(3,ai op)::B∧av w L v (R)∧(k≤l.length)∧(0≤op∧op≤k)∧(mV (l.drop k) op=mV l 0)∧m=l.length-k) (i:=⟨0,0,rfl,H0,om,oz,rfl,rfl⟩) (h:=?_)
 rintro m1 Γ1 w1 ⟨k,op,rfl,H1,hk,ho,hc,rfl⟩
 refine aC 6 (fun QJ=>?_) fun QJ=>?_
 refine ab 6 (h:=jb k (rl.at H1) (k:=ab 0 (h:=Fl (rl.at H1) (k:=ab 0 (h:=dB H1 (k:=fun w2 H2=>aY 0 (h:=bL H2 0 (k:=fun w3 H3=>ab 5 (h:=aM (H3.b 0) (k:=ab 0 (h:=aA (c:=rQ _ w3) (k:=?_))))))))))))
 rintro _ w4 ⟨rfl,u3⟩
 have H4:=H3.call u3
 have har:=oD (l.getD k cQ).kind
 refine b9 9 21 (fun Yp=>?_) fun Yp=>?_
 refine bE 18 (h:=?_)
 have e:dO l=false:=by unfold dO;rw [←hc,pd oz,if_pos (by first|exact .inl Yp|exact .inr (.inl MY)|exact .inr (.inr (by simpa using OG)))];simp
 exact ⟨(by rw [e]),H4.af⟩
 refine b9 5 26 (fun MY=>?_) fun MY=>?_
 refine bE 13 (h:=?_)
 have e:dO l=false:=by unfold dO;rw [←hc,pd oz,if_pos (by first|exact .inl Yp|exact .inr (.inl MY)|exact .inr (.inr (by simpa using OG)))];simp
 exact ⟨(by rw [e]),H4.af⟩
 refine ab 0 (h:=cd (H4.b 0) (k:=ab 0 (h:=aA (c:=FL (l.getD k cQ) w4) (k:=?_))))
 rintro _ w5 ⟨rfl,u4⟩
 have H5:=H4.call u4
 refine dv 4 (fun OG=>?_) fun OG=>?_
 refine bE 6 (h:=?_)
 have e:dO l=false:=by unfold dO;rw [←hc,pd oz,if_pos (by first|exact .inl Yp|exact .inr (.inl MY)|exact .inr (.inr (by simpa using OG)))];simp
 exact ⟨(by rw [e]),H5.af⟩
 exact ab 5 (h:=kB (k:=ab 0 (h:=aV (k:=ab 5 (h:=aV (k:=cm 2 (h:=by exact ⟨k+1,op+(1-(bR ((l.getD k cQ).kind))),rfl,(H5.pm [] rfl rfl),om,oz,(by rw [pd oz,if_neg (by first|exact fun h9=>h9.elim Yp (fun h8=>h8.elim MY (by simpa using OG)))] at hc;exact hc),rfl⟩)))))))
 refine bE 10 (h:=?_)
 have e:dO l=decide (op=1):=by rw [List.drop_of_length_le oz,mV] at hc;unfold dO;rw [←hc,decide_eq_true oz];simp
 exact ⟨(by rw [e]),H1.af⟩
theorem uX (la:aP) (l:List Nd) (lc:Nat) (iI:Int) (i:Nat) (T:Tr) (w:World) (rl:cP aJ w la l lc) (kE:iI=((i:Nat):Int)) (hT:Sub l i T):
 Calls Tryz.prog 147 #[aH la l lc,ai iI] w (aX fun v w'=>v=ai ((i:Int)+1-T.flat.length)∧ax w [] w' []):=by
 subst kE
 have hi:=hT.2.1
 have hTl:=hT.le
 have eI:=rl.le
 refine cH Tryz.func147 (h:=fun H0=>b9 11 9 (fun g52=>?_) fun g52=>?_)
 exfalso;omega
 refine aC 7 (fun Za=>?_) fun Za=>?_
 exfalso;omega
 refine dA 9 [5,1,4,0] (fun B R L m e v=>∃jI wt,e=(5,ai wt)::(1,ai jI)::B∧av w L v (R)∧(0≤jI)∧(Si l i T jI.toNat wt)∧m=(jI+1).toNat) (i:=⟨((i:Nat):Int),1,rfl,H0,oz,(by exact Si.start hT),rfl⟩) (h:=?_)
 rintro m1 Γ1 w1 ⟨jI,wt,rfl,H1,hj0,hF,rfl⟩
 have hj:=hF.1
 have hw:=hF.2.2.1
 have iu:=Si.step hT hF
 have hw1:=hF.2.1
 have har:=oD (l.getD jI.toNat cQ).kind
 have hw2:wt+(bR (l.getD jI.toNat cQ).kind-1)≤(i:Int)+1:=iu.2.elim (fun h9=>by omega) (fun h9=>h9.2.2.2.2.1)
 refine aC 7 (fun Y9=>?_) fun Y9=>?_
 refine ab 8 (h:=jb jI.toNat (rl.at H1) (cD:=oz) (k:=ab 0 (h:=j4 (rl.at H1) (k:=ab 0 (h:=nu (rl.at H1) (k:=ab 0 (h:=aA (c:=rQ _ w1) (k:=?_))))))))
 rintro _ w2 ⟨rfl,u1⟩
 have H2:=H1.call u1
 refine aC 10 (fun Y8=>?_) fun Y8=>?_
 exfalso;omega
 refine ab 6 (h:=kB (k:=ab 0 (h:=aV (k:=aC 9 (fun R2=>?_) fun R2=>?_))))
 exact bE 7 (h:=⟨(by congr 1;have h9:=(iu.2.resolve_right (fun h9=>h9.1 R2)).2;omega),H2.af⟩)
 exact ab 5 (h:=kB (k:=cm 2 (h:=by exact ⟨jI-1,wt+((bR ((l.getD jI.toNat cQ).kind))-1),rfl,H2,(by have h9:=(iu.2.resolve_left (fun h9=>R2 h9.1)).2.1;omega),(by rw [show (jI-1).toNat=jI.toNat-1 by omega];exact (iu.2.resolve_left (fun h9=>R2 h9.1)).2.2),rfl⟩)))
 exfalso;omega
theorem yf (la:aP) (l:List Nd) (lc:Nat) (iI:Int) (i:Nat) (T:Tr) (w:World) (rl:bz aJ w (.slice la l.length lc) l) (kE:iI=((i:Nat):Int)) (hT:Sub l i T):
 Calls Tryz.prog 107 #[.slice la l.length lc,ai iI] w (aX fun v w'=>∃a2,∃c2:Nat,v= .slice a2 ((bQ T i).length) c2∧ax w [] w' [ag (aw .i64) (.slice a2 ((bQ T i).length) c2) 3 (bQ T i)]):=by
 subst kE
 have hi:=hT.2.1
 have hTl:=hT.le
 have JS:=dQ hT.1
 have cB:=hT.root.1
 have eI:=rl.le
 refine cH Tryz.func107 (h:=fun H0=>ab 10 (h:=aA (c:=uX la l lc _ i T w (rl.at H0) oz hT) (k:=?_)))
 rintro _ w1 ⟨rfl,u1⟩
 have H1:=H0.call u1
 refine aC 3 (fun Kd=>?_) fun Kd=>?_
 exfalso;omega
 refine ab 10 (h:=kB (k:=ab 8 (h:=jb i (rl.at H1) (k:=ab 0 (h:=j4 (rl.at H1) (k:=ab 0 (h:=nu (rl.at H1) (k:=ab 0 (h:=aA (c:=rQ _ w1) (k:=?_))))))))))
 rintro _ w2 ⟨rfl,u2⟩
 have H2:=H1.call u2
 have H3:=H2.nr (aw .i64) 3
 refine dA 4 [7,6,5,4,0] (fun B R L m e v=>∃o:List Int,∃oa oc,∃at_ n,e=(7,ai n)::(6,ai at_)::(5,.slice oa o.length oc)::B∧av w L v ([ag (aw .i64) (.slice oa o.length oc) 3 o]::R)∧(Kr T i o at_ n)∧(0≤n)∧m=n.toNat) (i:=⟨([]:List Int),none,0,((i:Nat):Int)-1,bR ((l.getD i cQ).kind),rfl,H3,(by rw [cB,JS];exact Kr.start T i),(by rw [cB,JS];omega),rfl⟩) (h:=?_)
 rintro m1 Γ1 w3 ⟨o,oa,oc,at_,n,rfl,H4,hK,hn,rfl⟩
 have Fx:=hK.len
 refine aC 7 (fun c74=>?_) fun c74=>?_
 obtain ⟨ha0,hai,S,sN,VQ⟩:=Kr.step hT hK oz
 have hSl:=sN.le
 have hae:((at_.toNat:Nat):Int)=at_:=by omega
 refine ab 8 (h:=dL (aw .i64) [at_] H4 (k:=fun w4 H5=>ab 0 (h:=kJ H5 0 (H5.rt 1) (hb:=eR) (kW:=eR) (k:=fun a1 c1 w5 Vj=>?_))))
 have H6:=(Vj.drop 1).no
 refine ab 6 (h:=aA (c:=uX la l lc _ at_.toNat S w5 (rl.at H6) oz sN) (k:=?_))
 rintro _ w6 ⟨rfl,u5⟩
 have H7:=H6.call u5
 exact ab 0 (h:=kB (k:=ab 6 (h:=kB (k:=cm 2 (h:=by exact ⟨o++[at_],a1,c1,((at_.toNat:Int)+1-S.flat.length)-1,n-1,rfl,(H7.re rfl),(by rw [hae];exact VQ),oz,rfl⟩)))))
 refine ab 5 (h:=aA (c:=ti oa o oc o.length w3 (H4.dr 0) rfl oz) (k:=?_))
 rintro _ w7 ⟨rfl,u6⟩
 have H8:=H4.un 0 u6
 refine bE 9 (h:=?_)
 have e:o.reverse=bQ T i:=hK.fin oz
 rw [e] at H8
 exact ⟨oa,oc,(by rw [←e,List.length_reverse]),(by have hh:=H8.kM 0;rw [show o.length=(bQ T i).length by rw [←e,List.length_reverse]] at hh;exact hh)⟩
theorem BS (la:aP) (l:List Nd) (lc:Nat) (w:World) (rl:cP aJ w la l lc) (hl:l.length≤100000):
 Calls Tryz.prog 43 #[aH la l lc] w (aX fun v w'=>∃a2 c2,∃fs:List Int,v=aH a2 fs c2∧ax w [] w' [cE (aw .i64) 3 a2 fs c2]∧(FsR l fs)):=by
 have eI:=rl.le
 refine cH Tryz.func43 (h:=fun H0=>?_)
 have H1:=H0.nr (aw .i64) 3
 refine dA 17 [4,3,2,0] (fun B R L m e v=>∃k,∃o:List Int,∃oa oc,e=(4,b7 k)::(3,aH oa o oc)::B∧av w L v ([cE (aw .i64) 3 oa o oc]::R)∧(k≤l.length)∧(Q2 l k o)∧m=l.length-k) (i:=⟨0,([]:List Int),none,0,rfl,H1,om,(by exact ⟨rfl,fun i hi=>by omega⟩),rfl⟩) (h:=?_)
 rintro m1 Γ1 w1 ⟨k,o,oa,oc,rfl,H2,hk,ho,rfl⟩
 have Fx:=ho.1
 have har:=oD (l.getD k cQ).kind
 refine aC 9 (fun kH=>?_) fun kH=>?_
 refine ab 15 (h:=jb k (rl.at H2) (k:=ab 0 (h:=j4 (rl.at H2) (k:=ab 0 (h:=nu (rl.at H2) (k:=ab 0 (h:=aA (c:=oU _ w1) (k:=?_))))))))
 rintro _ w2 ⟨rfl,u1⟩
 have H3:=H2.call u1
 refine dA 4 [6,5,4,3,2,0] (fun B R L m e v=>∃fr n,e=(6,ai n)::(5,ai fr)::B∧av w L v (R)∧(A6 l k n fr)∧(-1≤n∧n≤2∧ -1≤fr∧fr≤(k:Int))∧(n= -1→bR (l.getD k cQ).kind<0)∧m=(n+1).toNat) (i:=⟨((k:Nat):Int),bR ((l.getD k cQ).kind),rfl,H3,(by exact A6.start l k),oz,oz,rfl⟩) (h:=?_)
 rintro m2 Γ2 w3 ⟨fr,n,rfl,H4,hF,hn,hm,rfl⟩
 refine b9 6 22 (fun g20=>?_) fun g20=>?_
 refine aC 5 (fun lz=>?_) fun lz=>?_
 refine aC 10 (fun AQ=>?_) fun AQ=>?_
 exact ab 7 (h:=kB (k:=cm 2 (h:=by exact ⟨-1,n-1,rfl,H4,(by first|exact (AQ▸hF:A6 l k n 0).zero oz oz|exact hF.step oz ho oz oz),oz,oz,rfl⟩)))
 have hfo:=ho.kC (i:=(fr-1).toNat) oz
 exact ab 3 (h:=kB (k:=ab 0 (h:=cg ((fr-1).toNat) (H4.rt 0) (cD:=oz) (k:=ab 0 (h:=cI (H4.rt 0) (k:=ab 6 (h:=kB (k:=cm 2 (h:=by exact ⟨o.getD ((fr-1).toNat) 0,n-1,rfl,H4,(by first|exact (AQ▸hF:A6 l k n 0).zero oz oz|exact hF.step oz ho oz oz),oz,oz,rfl⟩)))))))))
 refine o9 2 [24,23,4,3,2,0] 0 H4 (fun B R L e v=>∃f2,e=(5,ai f2)::B∧av w L v (R)∧((∃T,Sub l k T∧f2=(k:Int)+1-T.flat.length)∨((¬ ∃T,Sub l k T)∧f2= -1))) ?_ ?_
 refine ab 4 (h:=jb k (rl.at H4) (k:=ab 0 (h:=j4 (rl.at H4) (k:=ab 0 (h:=nu (rl.at H4) (k:=ab 0 (h:=aA (c:=oU _ w3) (k:=?_))))))))
 rintro _ w4 ⟨rfl,u2⟩
 have H5:=H4.call u2
 refine aC 3 (fun Dv=>?_) fun Dv=>?_
 exact cA 3 (h:=by exact ⟨-1,rfl,H5,(by first|exact .inr ⟨A6.bad Dv,rfl⟩|exact hF.fin oz (by first|exact .inl oz|exact .inr oz) oz oz)⟩)
 exact cA 1 (h:=by exact ⟨fr,rfl,H5,(by first|exact .inr ⟨A6.bad Dv,rfl⟩|exact hF.fin oz (by first|exact .inl oz|exact .inr oz) oz oz)⟩)
 rintro Γ3 w5 ⟨f2,rfl,H6,hp⟩
 refine ab 3 (h:=dL (aw .i64) [f2] H6 (k:=fun w6 H7=>ab 0 (h:=kJ H7 0 (H7.rt 1) (hb:=eR) (kW:=eR) (k:=fun a1 c1 w7 ZL=>?_))))
 have H8:=(ZL.drop 1).no
 exact ab 6 (h:=aV (k:=cm 2 (h:=by exact ⟨k+1,o++[f2],a1,c1,rfl,(H8.re rfl),om,(by exact ho.push hp),rfl⟩)))
 refine o9 8 [24,23,4,3,2,0] 0 H4 (fun B R L e v=>∃f2,e=(5,ai f2)::B∧av w L v (R)∧((∃T,Sub l k T∧f2=(k:Int)+1-T.flat.length)∨((¬ ∃T,Sub l k T)∧f2= -1))) ?_ ?_
 refine ab 4 (h:=jb k (rl.at H4) (k:=ab 0 (h:=j4 (rl.at H4) (k:=ab 0 (h:=nu (rl.at H4) (k:=ab 0 (h:=aA (c:=oU _ w3) (k:=?_))))))))
 rintro _ w8 ⟨rfl,u5⟩
 have H9:=H4.call u5
 refine aC 3 (fun Dv=>?_) fun Dv=>?_
 exact cA 3 (h:=by exact ⟨-1,rfl,H9,(by first|exact .inr ⟨A6.bad Dv,rfl⟩|exact hF.fin oz (by first|exact .inl oz|exact .inr oz) oz oz)⟩)
 exact cA 1 (h:=by exact ⟨fr,rfl,H9,(by first|exact .inr ⟨A6.bad Dv,rfl⟩|exact hF.fin oz (by first|exact .inl oz|exact .inr oz) oz oz)⟩)
 rintro Γ4 w9 ⟨YP,rfl,bW,hp⟩
 refine ab 3 (h:=dL (aw .i64) [YP] bW (k:=fun iy bP=>ab 0 (h:=kJ bP 0 (bP.rt 1) (hb:=eR) (kW:=eR) (k:=fun a2 c2 gS ae2=>?_))))
 have ck:=(ae2.drop 1).no
 exact ab 6 (h:=aV (k:=cm 2 (h:=by exact ⟨k+1,o++[YP],a2,c2,rfl,(ck.re rfl),om,(by exact ho.push hp),rfl⟩)))
 exact bE 9 (h:=⟨oa,oc,o,rfl,H2.kM 0,(ho.done oz)⟩)
end Go.Proofs.YtpbgmkhmdbchpaaGreatDoor
