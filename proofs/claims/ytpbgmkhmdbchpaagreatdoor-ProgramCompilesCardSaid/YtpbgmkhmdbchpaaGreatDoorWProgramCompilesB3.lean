/- Automata, decided: sets of states are met one after the other, each once. Conditions: those of each theorem. -/
import Derived.Test.YtpbgmkhmdbchpaaGreatDoorWProgramCompilesB2
import Derived.ProofKit
import Derived.OpenShut
import Derived.ShutString
import Derived.ChangeOld
import Derived.Below
import Derived.SizedLaws
import Derived.Deep.Slices
import Derived.Deep.CondSized
import Derived.Test.YtpbgmkhmdbchpaaGreatDoorProg
import Derived.KernelRfl
set_option linter.unusedVariables false
set_option linter.unusedSimpArgs false
set_option linter.unusedSectionVars false
set_option maxRecDepth 20000
namespace Go.Sx
section
variable {α:Type} [DecidableEq α]
def dM (os:List α) (x:α):List α:=if x∈os then os else os++[x]
theorem GB (os:List α) (x:α):x∈dM os x:=by
  unfold dM
  by_cases h:x∈os
  · rw [if_pos h];exact h
  · rw [if_neg h];simp
theorem ze {os:List α} (h:os.Nodup) (x:α):(dM os x).Nodup:=by
  unfold dM
  by_cases hx:x∈os
  · rw [if_pos hx];exact h
  · rw [if_neg hx,List.nodup_append]
    exact ⟨h,by simp,fun a ha b hb e=>hx (by rw [List.mem_singleton.1 hb] at e;rw [←e];exact ha)⟩
theorem tA {os:List α} {p:α→Prop} (h:∀y,y∈os→p y) {x:α} (hx:p x):∀y,y∈dM os x→p y:=by
  unfold dM
  by_cases hm:x∈os
  · rw [if_pos hm];exact h
  · rw [if_neg hm];intro y hy
    rcases List.mem_append.1 hy with h1|h1
    · exact h y h1
    · rw [List.mem_singleton.1 h1];exact hx
theorem BL {os:List α} {i:Nat} (d x:α) (h:i<os.length):(dM os x).getD i d=os.getD i d:=by
  unfold dM
  by_cases hm:x∈os
  · rw [if_pos hm]
  · rw [if_neg hm,List.getD_eq_getElem?_getD,List.getElem?_append_left h,←List.getD_eq_getElem?_getD]
theorem GC (os:List α) (x:α):os.length≤(dM os x).length∧(dM os x).length≤os.length+1:=by
  unfold dM
  by_cases hm:x∈os
  · rw [if_pos hm];omega
  · rw [if_neg hm,List.length_append,List.length_singleton];omega
theorem K6:∀ {l:List α},l.Nodup→dd l=l:=by
  intro l h
  have key:∀(n:Nat) (l:List α),l.length=n→l.Nodup→dd l=l:=by
    intro n
    induction n with
    | zero=>intro l hl _;rw [List.length_eq_zero_iff.1 hl];rfl
    | succ n ih=>
      intro l hl rQ
      have c0:l≠[]:=fun e=>by rw [e] at hl;cases hl
      have e:=List.dropLast_concat_getLast c0
      rw [←e] at rQ ⊢
      have acj:=List.nodup_append.1 rQ
      have hd:=ih l.dropLast (by rw [List.length_dropLast];omega) acj.1
      rw [fl,hd,if_neg (fun h9=>acj.2.2 _ h9 _ (by simp) rfl)]
  exact key l.length l rfl h
theorem KI {os:List α} {x:α} :ix x (dM os x)=if x∈os then ix x os else os.length:=by
  unfold dM
  by_cases h:x∈os
  · rw [if_pos h,if_pos h]
  · rw [if_neg h,if_neg h];exact nV h
variable (tr:α→Int→α) (d:α)
def Th (at_:Nat) (p:List α×List Int) (s:Int):List α×List Int:=(dM p.1 (tr (p.1.getD at_ d) s),p.2++[((ix (tr (p.1.getD at_ d) s) (dM p.1 (tr (p.1.getD at_ d) s)):Nat):Int)])
def lz (at_:Nat) (fs:List Int) (p:List α×List Int):List α×List Int:=fs.foldl (Th tr d at_) p
def ew (fs:List Int) (x0:α):Nat→List α×List Int
  | 0=>([x0],[])
  | n+1=>lz tr d n fs (ew fs x0 n)
def An (fs:List Int) (x0:α) (aK:Int) (p:List α×List Int):Prop:=
  ∃n,(∀k,k<n→k<(ew tr d fs x0 k).1.length∧((ew tr d fs x0 k).1.length:Int)≤aK)∧¬(n<(ew tr d fs x0 n).1.length∧((ew tr d fs x0 n).1.length:Int)≤aK)∧p=ew tr d fs x0 n
variable {tr d}
theorem An.uniq {fs:List Int} {x0:α} {aK:Int} {p p':List α×List Int} (h:An tr d fs x0 aK p) (h':An tr d fs x0 aK p'):p=p':=by
  obtain ⟨n,h1,h2,rfl⟩:=h
  obtain ⟨n',wP,wO,rfl⟩:=h'
  rcases Nat.lt_trichotomy n n' with h|h|h
  · exact absurd (wP n h) h2
  · rw [h]
  · exact absurd (h1 n' h) wO
theorem mR {fs:List Int} {c at_:Nat} {p:List α×List Int} (h:c<fs.length):lz tr d at_ (fs.take (c+1)) p=Th tr d at_ (lz tr d at_ (fs.take c) p) (fs.getD c 0):=by
  unfold lz
  rw [gw 0 h,List.foldl_append];rfl
structure uP (p0 p:List α×List Int) (c:Nat):Prop where
  nodup:p.1.Nodup
  Ir:p0.1.length≤p.1.length
  abI:p.1.length≤p0.1.length+c
  nx:p.2.length=p0.2.length+c
  vk:∀i,i<p0.1.length→p.1.getD i d=p0.1.getD i d
theorem uP.step {p0 p:List α×List Int} {c at_:Nat} {s:Int} (h:uP (d:=d) p0 p c):uP (d:=d) p0 (Th tr d at_ p s) (c+1):=by
  have hl:=GC p.1 (tr (p.1.getD at_ d) s)
  have h1:=h.Ir;have h2:=h.abI;have h3:=h.nx
  refine ⟨ze h.nodup _,?_,?_,?_,fun i hi=>?_⟩
  · show p0.1.length≤(dM p.1 _).length;omega
  · show (dM p.1 _).length≤p0.1.length+(c+1);omega
  · show (p.2++[_]).length=_;rw [List.length_append,List.length_singleton];omega
  · show (dM p.1 _).getD i d=_
    rw [BL d _ oz];exact h.vk i hi
theorem uP.row {p0:List α×List Int} (rQ:p0.1.Nodup) (fs:List Int) (at_:Nat):∀c,c≤fs.length→uP (d:=d) p0 (lz tr d at_ (fs.take c) p0) c
  | 0,_=>⟨rQ,Nat.le_refl _,Nat.le_refl _,rfl,fun _ _=>rfl⟩
  | c+1,hc=>by rw [mR oz];exact (uP.row rQ fs at_ c oz).step
theorem gy (fs:List Int) (x0:α):∀n,(ew tr d fs x0 n).1.Nodup
  | 0=>by simp [ew]
  | n+1=>by
    have:=uP.row (tr:=tr) (d:=d) (gy fs x0 n) fs n fs.length (Nat.le_refl _)
    rw [List.take_length] at this;exact this.nodup
theorem JZ (fs:List Int) (x0:α):∀n,(ew tr d fs x0 n).2.length=n*fs.length∧1≤(ew tr d fs x0 n).1.length
  | 0=>by simp [ew]
  | n+1=>by
    have h:=uP.row (tr:=tr) (d:=d) (gy (tr:=tr) (d:=d) fs x0 n) fs n fs.length (Nat.le_refl _)
    rw [List.take_length] at h
    have ih:=JZ fs x0 n
    refine ⟨?_,Nat.le_trans ih.2 h.Ir⟩
    have:=h.nx
    show (lz tr d n fs (ew tr d fs x0 n)).2.length=_
    rw [this,ih.1,Nat.succ_mul]
theorem Ec (fs:List Int) (x0:α):∀n,∀t,t∈(ew tr d fs x0 n).2→0≤t∧t<((ew tr d fs x0 n).1.length:Int)
  | 0=>by intro t ht;cases ht
  | n+1=>by
    have key:∀c,c≤fs.length→∀t,t∈(lz tr d n (fs.take c) (ew tr d fs x0 n)).2→0≤t∧t<((lz tr d n (fs.take c) (ew tr d fs x0 n)).1.length:Int):=by
      intro c
      induction c with
      | zero=>intro _ t ht;exact Ec fs x0 n t ht
      | succ c ih=>
        intro hc t ht
        rw [mR oz] at ht ⊢
        have hl:=GC (lz tr d n (fs.take c) (ew tr d fs x0 n)).1 (tr ((lz tr d n (fs.take c) (ew tr d fs x0 n)).1.getD n d) (fs.getD c 0))
        rcases List.mem_append.1 ht with h1|h1
        · have:=ih oz t h1
          refine ⟨this.1,?_⟩
          show t<((dM _ _).length:Int);omega
        · rw [List.mem_singleton.1 h1]
          have:=pv (GB (lz tr d n (fs.take c) (ew tr d fs x0 n)).1 (tr ((lz tr d n (fs.take c) (ew tr d fs x0 n)).1.getD n d) (fs.getD c 0)))
          refine ⟨by omega,?_⟩
          show _<((dM _ _).length:Int);omega
    have:=key fs.length (Nat.le_refl _)
    rw [List.take_length] at this;exact this
theorem An.fin {fs:List Int} {x0:α} {aK:Int} {p:List α×List Int} (h:An tr d fs x0 aK p) (hm:(p.1.length:Int)≤aK):p.2.length=p.1.length*fs.length∧1≤p.1.length∧p.1.Nodup∧∀t,t∈p.2→0≤t∧t<(p.1.length:Int):=by
  obtain ⟨n,h1,h2,rfl⟩:=h
  have hx:=JZ (tr:=tr) (d:=d) fs x0 n
  have hge:(ew tr d fs x0 n).1.length≤n:=by
    refine Nat.le_of_not_lt fun h9=>h2 ⟨h9,hm⟩
  have hle:n≤(ew tr d fs x0 n).1.length:=by
    cases n with
    | zero=>exact Nat.zero_le _
    | succ n=>
      have:=(h1 n oz).1
      have hr:=uP.row (tr:=tr) (d:=d) (gy (tr:=tr) (d:=d) fs x0 n) fs n fs.length (Nat.le_refl _)
      rw [List.take_length] at hr
      have h3:=hr.Ir
      show n+1≤(lz tr d n fs (ew tr d fs x0 n)).1.length
      omega
  have e:(ew tr d fs x0 n).1.length=n:=by omega
  exact ⟨by rw [e];exact hx.1,hx.2,gy fs x0 n,Ec fs x0 n⟩
end
noncomputable def jZ (st:List ay) (fr:List Int) (sym:Int):List Bool:=
  open Classical in if h:∃o,oT st fr sym o then Classical.choose h else []
theorem y2 {st:List ay} {s0 f0 sym:Int} {fr:List Int} {o:List Bool} (hN:oU st s0 f0) (h:oT st fr sym o) (hr:∀t,t∈fr→0≤t):jZ st fr sym=o:=by
  unfold jZ
  rw [dif_pos ⟨o,h⟩]
  exact (Classical.choose_spec (⟨o,h⟩:∃o,oT st fr sym o)).uniq hN h (fun t=>Iff.rfl) hr
noncomputable def jF (st:List ay) (o:List Bool) (sym:Int):List Bool:=if sym<256 then jZ st (ef st (cF o) sym.toNat) 0 else jZ st (cF o) sym
theorem xk {st:List ay} {s0 f0 sym:Int} {o o':List Bool} (hN:oU st s0 f0) (hs:sym<256) (h:oT st (ef st (cF o) sym.toNat) 0 o') (ho:o.length=st.length):jF st o sym=o':=by
  unfold jF;rw [if_pos hs]
  exact y2 hN h (fun t ht=>(pV hN (fun t ht=>by have:=lF ht;rw [ho] at this;exact this) t ht).1)
theorem tO {st:List ay} {s0 f0 sym:Int} {o o':List Bool} (hN:oU st s0 f0) (hs:¬sym<256) (h:oT st (cF o) sym o'):jF st o sym=o':=by
  unfold jF;rw [if_neg hs]
  exact y2 hN h (fun t ht=>(lF ht).1)
theorem Qd {a b:List Bool} (hl:a.length=b.length) (h:cF a=cF b):a=b:=by
  apply List.ext_getElem?
  intro i
  rcases Nat.lt_or_ge i a.length with hi|hi
  · have wL:i<b.length:=by omega
    have m1:((i:Nat):Int)∈cF a↔a.getD i false=true:=by
      rw [gG];exact ⟨fun ⟨k,e,h9⟩=>by (obtain rfl:i=k:=by omega);exact h9,fun h9=>⟨i,rfl,h9⟩⟩
    have m2:((i:Nat):Int)∈cF b↔b.getD i false=true:=by
      rw [gG];exact ⟨fun ⟨k,e,h9⟩=>by (obtain rfl:i=k:=by omega);exact h9,fun h9=>⟨i,rfl,h9⟩⟩
    rw [h] at m1
    have e1:a.getD i false=a[i]:=by rw [List.getD_eq_getElem?_getD,List.getElem?_eq_getElem hi];rfl
    have e2:b.getD i false=b[i]:=by rw [List.getD_eq_getElem?_getD,List.getElem?_eq_getElem wL];rfl
    rw [e1] at m1;rw [e2] at m2
    rw [List.getElem?_eq_getElem hi,List.getElem?_eq_getElem wL]
    congr 1
    rw [Bool.eq_iff_iff];exact m1.symm.trans m2
  · rw [List.getElem?_eq_none hi,List.getElem?_eq_none oz]
def qI (o:List Bool):ByteArray:=ME (cF o)
theorem yp {a b:List Bool} (ha:a.length≤600) (hl:a.length=b.length) (h:qI a=qI b):a=b:=by
  refine Qd hl (Qk (fun x hx=>?_) (fun x hx=>?_) h)
  · have:=lF hx;omega
  · have:=lF hx;omega
theorem KH {os:List (List Bool)} {x:List Bool} {n:Nat} (hn:n≤600) (ho:∀y,y∈os→y.length=n) (hx:x.length=n):qI x∈os.map qI↔x∈os:=by
  constructor
  · intro h
    obtain ⟨y,hy,e⟩:=List.mem_map.1 h
    have:=yp (by rw [ho y hy];exact hn) ((ho y hy).trans hx.symm) e
    rw [←this];exact hy
  · intro h;exact List.mem_map.2 ⟨x,h,rfl⟩
theorem Bd {os:List (List Bool)} {n:Nat} (hn:n≤600) (ho:∀y,y∈os→y.length=n) (h:os.Nodup):(os.map qI).Nodup:=by
  unfold List.Nodup at h ⊢
  exact List.pairwise_map.2 (List.Pairwise.imp_of_mem (fun {x y} hx hy c0 e=>c0 (yp (by rw [ho x hx];exact hn) ((ho x hx).trans (ho y hy).symm) e)) h)
theorem XB {os:List (List Bool)} {x:List Bool} {n:Nat} (hn:n≤600) (ho:∀y,y∈os→y.length=n) (hx:x.length=n):ix (qI x) (os.map qI)=ix x os:=by
  refine Fp (by simp) (fun i hi=>?_)
  rw [List.length_map] at hi
  rw [List.getElem?_map,List.getElem?_eq_getElem hi]
  simp only [Option.map_some,Option.some.injEq]
  have hm:=List.getElem_mem hi
  exact ⟨fun e=>yp (by rw [ho _ hm];exact hn) ((ho _ hm).trans hx.symm) e,fun e=>by rw [e]⟩
def uR (n:Nat) (os:List (List Bool)) (mm:List (ByteArray×Int)):Prop:=n≤600∧os.Nodup∧(∀y,y∈os→y.length=n)∧mm=uj (os.map qI)
theorem uR.some {n:Nat} {os:List (List Bool)} {mm:List (ByteArray×Int)} {x:List Bool} (h:uR n os mm) (hx:x.length=n) (hs:(getM mm (qI x)).isSome=true):x∈os∧(getM mm (qI x)).getD 0=((ix x os:Nat):Int):=by
  obtain ⟨h1,h2,h3,rfl⟩:=h
  rw [mY] at hs ⊢
  by_cases hm:qI x∈os.map qI
  · rw [if_pos hm,K6 (Bd h1 h3 h2),XB h1 h3 hx]
    exact ⟨(KH h1 h3 hx).1 hm,rfl⟩
  · rw [if_neg hm] at hs;cases hs
theorem uR.none {n:Nat} {os:List (List Bool)} {mm:List (ByteArray×Int)} {x:List Bool} (h:uR n os mm) (hx:x.length=n) (hs:¬(getM mm (qI x)).isSome=true):x∉os∧uR n (os++[x]) (jN mm (qI x) ((os.length:Nat):Int)):=by
  obtain ⟨h1,h2,h3,rfl⟩:=h
  rw [mY] at hs
  have hm:qI x∉os.map qI:=fun hm=>hs (by rw [if_pos hm];rfl)
  have lS:x∉os:=fun h9=>hm ((KH h1 h3 hx).2 h9)
  refine ⟨lS,h1,?_,?_,?_⟩
  · have:=ze h2 x;unfold dM at this;rwa [if_neg lS] at this
  · have:=tA h3 hx;unfold dM at this;rwa [if_neg lS] at this
  · have e:=Fb hm
    rw [sH,K6 (Bd h1 h3 h2),List.length_map] at e
    rw [e,List.map_append];rfl
theorem uR.start {n:Nat} (hn:n≤600):uR n [] []:=⟨hn,List.nodup_nil,fun y hy=>by (cases hy),rfl⟩
theorem xV {ps:List (LR Int)} {os:List (List Bool)} (h:ps.map LR.xs=os.map cF) {i:Nat} (hi:i<os.length):(ps.getD i ai).xs=cF (os.getD i []):=by
  have hl:ps.length=os.length:=by simpa using congrArg List.length h
  have e:=congrArg (fun l=>l[i]?) h
  simp only [List.getElem?_map,List.getElem?_eq_getElem hi,List.getElem?_eq_getElem (hl▸hi),Option.map_some,Option.some.injEq] at e
  rw [List.getD_eq_getElem?_getD,List.getElem?_eq_getElem (hl▸hi),List.getD_eq_getElem?_getD,List.getElem?_eq_getElem hi]
  exact e
theorem xK {st:List ay} {fs nx vW:List Int} {os oF:List (List Bool)} {o2:List Bool} {at9 c9:Nat} (h:lz (jF st) [] at9 (fs.take c9) (os,nx)=(oF,vW)) (hc:c9<fs.length) (ht:o2=jF st (oF.getD at9 []) (fs.getD c9 0)):lz (jF st) [] at9 (fs.take (c9+1)) (os,nx)=(dM oF o2,vW++[((ix o2 (dM oF o2):Nat):Int)]):=by
  rw [mR hc,h,ht];rfl
theorem Ep {st:List ay} {fs nx vW:List Int} {os oF:List (List Bool)} {at9 c9:Nat} (hn:os.Nodup) (h:lz (jF st) [] at9 (fs.take c9) (os,nx)=(oF,vW)) (hc:c9≤fs.length):os.length≤oF.length∧oF.length≤os.length+c9∧vW.length=nx.length+c9:=by
  have:=uP.row (tr:=jF st) (d:=[]) (p0:=(os,nx)) hn fs at9 c9 hc
  rw [h] at this
  exact ⟨this.Ir,this.abI,this.nx⟩
theorem Eb {st:List ay} {fs nx vW:List Int} {os oF:List (List Bool)} {x0:List Bool} {at9:Nat} (h:ew (jF st) [] fs x0 at9=(os,nx)) (h2:lz (jF st) [] at9 (fs.take fs.length) (os,nx)=(oF,vW)):ew (jF st) [] fs x0 (at9+1)=(oF,vW):=by
  rw [List.take_length] at h2
  show lz (jF st) [] at9 fs (ew (jF st) [] fs x0 at9)=_
  rw [h,h2]
def JN (st:List ay) (fs:List Int) (x0:List Bool) (aK:Int) (n:Nat):Prop:=∀k,k<n→k<(ew (jF st) [] fs x0 k).1.length∧((ew (jF st) [] fs x0 k).1.length:Int)≤aK
theorem JN.next {st:List ay} {fs nx:List Int} {os:List (List Bool)} {x0:List Bool} {aK:Int} {n:Nat} (h:JN st fs x0 aK n) (hs:ew (jF st) [] fs x0 n=(os,nx)) (h1:n<os.length) (h2:(os.length:Int)≤aK):JN st fs x0 aK (n+1):=fun k hk=>by
  rcases Nat.lt_or_ge k n with h9|h9
  · exact h k h9
  · obtain rfl:k=n:=by omega
    rw [hs];exact ⟨h1,h2⟩
theorem JN.fin {st:List ay} {fs nx:List Int} {os:List (List Bool)} {x0:List Bool} {aK:Int} {n:Nat} (h:JN st fs x0 aK n) (hs:ew (jF st) [] fs x0 n=(os,nx)) (hn:¬(n<os.length∧(os.length:Int)≤aK)):An (jF st) [] fs x0 aK (os,nx):=⟨n,h,by rw [hs];exact hn,hs.symm⟩
theorem GA (x:List Bool):dM [] x=[x]:=by simp [dM]
theorem Kw {a b A B:Nat} (h1:a≤A) (h2:b≤B):a*b≤A*B:=Nat.mul_le_mul h1 h2
theorem fb.two {v:Value} {A B:List Chunk} (h:fb v A) (h':fb v B):fb v (A++B):=fun g hg hm=>by
  obtain ⟨c,hc,QI⟩:=iA.1 hm
  rcases List.mem_append.1 hc with h1|h1
  · exact h g hg (iA.2 ⟨c,h1,QI⟩)
  · exact h' g hg (iA.2 ⟨c,h1,QI⟩)
theorem jU {v:List Bool} {i j:Nat} {b:Bool} (hi:i<v.length):(v.set i b).getD j false=if i=j then b else v.getD j false:=by
  rw [List.getD_eq_getElem?_getD,List.getElem?_set]
  by_cases e:i=j
  · rw [if_pos e,if_pos e,if_pos hi];rfl
  · rw [if_neg e,if_neg e,←List.getD_eq_getElem?_getD]
structure JO (os:List (List Bool)) (f0:Int) (v:List Bool) (i:Nat) (set:List Int) (j:Nat):Prop where
  len:v.length=os.length
  lo:∀k,k<i→v.getD k false=(os.getD k []).getD f0.toNat false
  hi:∀k,i<k→v.getD k false=false
  at_:v.getD i false=decide (f0∈set.take j)
structure DD (os:List (List Bool)) (f0:Int) (v:List Bool) (i:Nat):Prop where
  len:v.length=os.length
  lo:∀k,k<i→v.getD k false=(os.getD k []).getD f0.toNat false
  hi:∀k,i≤k→v.getD k false=false
theorem DD.start (os:List (List Bool)) (f0:Int) {n:Nat} (hn:n=os.length):DD os f0 (List.replicate n false) 0:=⟨by simp [hn],fun k hk=>by omega,fun k _=>by
  rw [List.getD_eq_getElem?_getD,List.getElem?_replicate];split<;>rfl⟩
theorem DD.go {os:List (List Bool)} {f0:Int} {v:List Bool} {i:Nat} (h:DD os f0 v i) (set:List Int):JO os f0 v i set 0:=⟨h.len,h.lo,fun k hk=>h.hi k oz,by rw [h.hi i (Nat.le_refl _)];simp⟩
theorem JO.put {os:List (List Bool)} {f0:Int} {v:List Bool} {i j:Nat} {set:List Int} {b:Bool} (h:JO os f0 v i set j) (hi:i<os.length) (hj:j<set.length) (hb:b=(v.getD i false||decide (set.getD j 0=f0))):JO os f0 (v.set i b) i set (j+1):=by
  have hl:=h.len
  refine ⟨by rw [List.length_set];exact hl,fun k hk=>?_,fun k hk=>?_,?_⟩
  · rw [jU oz,if_neg oz];exact h.lo k hk
  · rw [jU oz,if_neg oz];exact h.hi k hk
  · rw [jU oz,if_pos rfl,hb,h.at_,gw 0 hj,Bool.eq_iff_iff]
    simp only [Bool.or_eq_true,decide_eq_true_eq,List.mem_append,List.mem_singleton]
    exact ⟨fun h9=>h9.imp id Eq.symm,fun h9=>h9.imp id Eq.symm⟩
theorem JO.done {os:List (List Bool)} {f0:Int} {v:List Bool} {i j:Nat} {set:List Int} (h:JO os f0 v i set j) (hj:¬j<set.length) (hs:set=cF (os.getD i [])) (h0:0≤f0):DD os f0 v (i+1):=by
  refine ⟨h.len,fun k hk=>?_,fun k hk=>h.hi k oz⟩
  rcases Nat.lt_or_ge k i with h1|h1
  · exact h.lo k h1
  · obtain rfl:k=i:=by omega
    rw [h.at_,List.take_of_length_le oz,hs,Bool.eq_iff_iff,decide_eq_true_eq,gG]
    exact ⟨fun ⟨q,e,h9⟩=>by rw [e,Int.toNat_natCast];exact h9,fun h9=>⟨f0.toNat,by omega,h9⟩⟩
theorem DD.fin {os:List (List Bool)} {f0:Int} {v:List Bool} {i:Nat} (h:DD os f0 v i) (hi:os.length≤i):v=os.map (·.getD f0.toNat false):=by
  have hl:=h.len
  apply List.ext_getElem?
  intro k
  rcases Nat.lt_or_ge k os.length with h1|h1
  · have e:=h.lo k oz
    have h2:k<v.length:=by omega
    have x1:v.getD k false=v[k]:=by rw [List.getD_eq_getElem?_getD,List.getElem?_eq_getElem h2];rfl
    have x2:os.getD k []=os[k]:=by rw [List.getD_eq_getElem?_getD,List.getElem?_eq_getElem h1];rfl
    rw [x1,x2] at e
    rw [List.getElem?_eq_getElem h2,List.getElem?_map,List.getElem?_eq_getElem h1]
    exact congrArg some e
  · rw [List.getElem?_eq_none oz,List.getElem?_map,List.getElem?_eq_none h1];rfl
def oS (st:List ay) (s0 f0 aK:Int) (d:ar) (er:Int):Prop:=
  ∃cls w os nx,Au st cls w∧An (jF st) [] (ax cls w) (jZ st [s0] 0) aK (os,nx)∧
    (((os.length:Int)≤aK∧er=0∧d=⟨cls,w,0,nx,os.map (·.getD f0.toNat false)⟩)∨((os.length:Int)>aK∧er=5∧d=⟨[],0,0,[],[]⟩))
theorem oS.uniq {st:List ay} {s0 f0 aK:Int} {d d':ar} {er er':Int} (h:oS st s0 f0 aK d er) (h':oS st s0 f0 aK d' er'):d=d'∧er=er':=by
  obtain ⟨cls,w,os,nx,h1,h2,h3⟩:=h
  obtain ⟨anM,w',os',nx',wP,wO,Uq⟩:=h'
  obtain ⟨rfl,rfl⟩:=h1.uniq wP
  have:=h2.uniq wO
  simp only [Prod.mk.injEq] at this
  obtain ⟨rfl,rfl⟩:=this
  rcases h3 with ⟨a,rfl,rfl⟩|⟨a,rfl,rfl⟩<;>rcases Uq with ⟨b,rfl,rfl⟩|⟨b,rfl,rfl⟩<;>first|exact ⟨rfl,rfl⟩|omega
theorem kf {st:List ay} {c:List Int} {w:Int} (h:Au st c w):(ax c w).length=w.toNat∧∀t,t∈ax c w→0≤t∧t<259:=by
  have hw:=h.k8
  refine ⟨by rw [kg];omega,fun t ht=>?_⟩
  unfold ax at ht
  obtain ⟨k,hk,rfl⟩:=List.mem_map.1 ht
  rw [List.mem_range] at hk
  have hkw:(k:Int)<w:=by omega
  have hd:k<(dd c).length:=by have:=h.wid;omega
  obtain ⟨i,hi,e⟩:=A4 hd
  rw [h.num] at e
  have hm:((k:Nat):Int)∈c:=by rw [←e];exact au hi
  unfold dp;rw [if_pos hm]
  have:=pv hm
  rw [h.len] at this;omega
theorem oS.right {st:List ay} {s0 f0 aK:Int} {d:ar} (h:oS st s0 f0 aK d 0) (hm:aK≤4096):aN d=true:=by
  obtain ⟨cls,w,os,nx,h1,h2,h3⟩:=h
  rcases h3 with ⟨a,_,rfl⟩|⟨a,e,_⟩
  · have hw:=h1.k8
    have hf:=h2.fin a
    have hl:=(kf h1).1
    have Ue:1≤os.length:=hf.2.1
    have zz:os.length≤4096:=by have a':(os.length:Int)≤aK:=a;omega
    have V8:(os.map (fun x:List Bool=>x.getD f0.toNat false)).length=os.length:=List.length_map ..
    refine bo.2 ⟨⟨h1.len,hw.1,hw.2.1,?_,?_,?_,Int.le_refl _,?_⟩,?_,?_⟩
    · exact Nat.le_trans Ue (Nat.le_of_eq V8.symm)
    · exact Nat.le_trans (Nat.le_of_eq V8) zz
    · simp only [List.length_map]
      rw [hf.1,hl,Int.natCast_mul,Int.toNat_of_nonneg oz]
    · show (0:Int)<((os.map (fun x:List Bool=>x.getD f0.toNat false)).length:Int);rw [V8];omega
    · unfold gL;rw [List.all_eq_true]
      intro x hx
      obtain ⟨i,hi,e⟩:=List.mem_iff_getElem.1 hx
      have wL:i<cls.length:=hi
      have NY:i<259:=by have:=h1.len;omega
      have:=hw.2.2 i NY
      have x1:cls.getD i 0=cls[i]:=by rw [List.getD_eq_getElem?_getD,List.getElem?_eq_getElem hi];rfl
      rw [x1,e] at this
      exact decide_eq_true this
    · unfold gL;rw [List.all_eq_true]
      intro x hx
      simp only [List.length_map]
      exact decide_eq_true (hf.2.2.2 x hx)
  · cases e
theorem uQ.congr {nx:Int→List Int} {n:Nat} {t0 t1:List Int} {o:List Bool} (h:uQ nx n t0 o) (hm:∀t,t∈t0↔t∈t1):uQ nx n t1 o:=
  ⟨h.len,fun t ht=>h.init t ((hm t).2 ht),h.jZ,fun Q h0 h1=>h.min Q (fun t ht=>h0 t ((hm t).1 ht)) h1⟩
theorem U3 {o:List Bool} {i:Nat} (hi:i<o.length):cf (o.set i true)≤cf o∧(o.getD i false=true→o.set i true=o)∧(¬o.getD i false=true→cf (o.set i true)+1=cf o):=by
  by_cases h:o.getD i false=true
  · have e:o.set i true=o:=by
      apply List.ext_getElem?
      intro j
      rw [List.getElem?_set]
      split
      · rename_i e;subst e
        rw [List.getD_eq_getElem?_getD,List.getElem?_eq_getElem hi] at h
        rw [List.getElem?_eq_getElem hi]
        first|(rw [if_pos hi];simpa using h.symm)|simpa using h.symm
      · rfl
    exact ⟨by rw [e];exact Nat.le_refl _,fun _=>e,fun h9=>absurd h h9⟩
  · have:=C6 o i hi (by simpa using h)
    exact ⟨by omega,fun h9=>absurd h9 h,fun _=>this⟩
def yZ (nx:Int→List Int) (o:List Bool) (k:Nat):Prop:=o.getD k false=true→∀t,t∈nx k→o.getD t.toNat false=true
structure zf (nx:Int→List Int) (n:Nat) (o0 o:List Bool) (i:Nat):Prop where
  len:o.length=n
  mono:∀r:Nat,o0.getD r false=true→o.getD r false=true
  min:∀Q:Int→Prop,(∀r:Nat,o0.getD r false=true→Q r)→(∀s,Q s→∀t,t∈nx s→Q t)→∀r:Nat,o.getD r false=true→Q r
  Nh:(o=o0∧∀k,k<i→yZ nx o0 k)∨cf o+1≤cf o0
section
variable {nx:Int→List Int} {n:Nat} {o0 o:List Bool} {i:Nat}
theorem zf.start (h:o.length=n):zf nx n o o 0:=⟨h,fun _ h=>h,fun Q h0 _=>h0,.inl ⟨rfl,fun k hk=>by omega⟩⟩
theorem zf.skip (h:zf nx n o0 o i) (hi:¬o.getD i false=true):zf nx n o0 o (i+1):=
  ⟨h.len,h.mono,h.min,h.Nh.imp (fun ⟨e,hc⟩=>⟨e,fun k hk=>by
    rcases Nat.lt_or_ge k i with h1|h1
    · exact hc k h1
    · obtain rfl:k=i:=by omega
      intro h9;rw [e] at hi;exact absurd h9 hi⟩) id⟩
def jL (o:List Bool):List Int→List Bool
  | []=>o
  | x::l=>jL (o.set x.toNat true) l
theorem va:∀(l:List Int) (o:List Bool),(∀t,t∈l→t.toNat<o.length)→(jL o l).length=o.length∧(∀r:Nat,o.getD r false=true→(jL o l).getD r false=true)∧(∀t,t∈l→(jL o l).getD t.toNat false=true)∧(∀r:Nat,(jL o l).getD r false=true→o.getD r false=true∨∃t,t∈l∧r=t.toNat)∧((jL o l=o∧∀t,t∈l→o.getD t.toNat false=true)∨cf (jL o l)+1≤cf o)
  | [],o,_=>⟨rfl,fun _ h=>h,fun t ht=>by (cases ht),fun r h=> .inl h,.inl ⟨rfl,fun t ht=>by (cases ht)⟩⟩
  | x::l,o,hb=>by
    have hx:=hb x List.mem_cons_self
    obtain ⟨h1,h2,h3,h4,h5⟩:=va l (o.set x.toNat true) (fun t ht=>by rw [List.length_set];exact hb t (List.mem_cons_of_mem _ ht))
    obtain ⟨c1,c2,c3⟩:=U3 hx
    have oP:∀r:Nat,(o.set x.toNat true).getD r false=if x.toNat=r then true else o.getD r false:=fun r=>jU hx
    refine ⟨by simp only [jL];rw [h1,List.length_set],fun r hr=>h2 r (by rw [oP];split<;>simp_all),fun t ht=>?_,fun r hr=>?_,?_⟩
    · rcases List.mem_cons.1 ht with rfl|h9
      · exact h2 _ (by rw [oP,if_pos rfl])
      · exact h3 t h9
    · rcases h4 r hr with h9|⟨t,ht,e⟩
      · rw [oP] at h9
        split at h9
        · rename_i e;exact .inr ⟨x,List.mem_cons_self,e.symm⟩
        · exact .inl h9
      · exact .inr ⟨t,List.mem_cons_of_mem _ ht,e⟩
    · simp only [jL]
      by_cases lS:o.getD x.toNat false=true
      · have e:=c2 lS
        rcases h5 with ⟨e5,h6⟩|h5
        · rw [e] at e5 h6 ⊢
          exact .inl ⟨e5,fun t ht=>(List.mem_cons.1 ht).elim (fun h9=>by rw [h9];exact lS) (h6 t)⟩
        · rw [e] at h5 ⊢;exact .inr h5
      · have:=c3 lS
        rcases h5 with ⟨e5,_⟩|h5
        · rw [e5];exact .inr oz
        · exact .inr oz
theorem zf.go (h:zf nx n o0 o i) (hi:o.getD i false=true) (hb:∀t,t∈nx i→0≤t∧t<(n:Int)) {o':List Bool} (e:o'=jL o (nx i)):zf nx n o0 o' (i+1):=by
  subst e
  obtain ⟨h1,h2,h3,h4,h5⟩:=va (nx i) o (fun t ht=>by have:=hb t ht;rw [h.len];omega)
  refine ⟨h1.trans h.len,fun r hr=>h2 r (h.mono r hr),fun Q h0 hc r hr=>?_,?_⟩
  · rcases h4 r hr with h9|⟨t,ht,e⟩
    · exact h.min Q h0 hc r h9
    · have:=hc _ (h.min Q h0 hc i hi) t ht
      have e2:((r:Nat):Int)=t:=by have:=hb t ht;omega
      rw [e2];exact this
  · rcases h.Nh with ⟨e,hc⟩|hd
    · rcases h5 with ⟨e5,h6⟩|h5
      · refine .inl ⟨e5.trans e,fun k hk=>?_⟩
        rcases Nat.lt_or_ge k i with h9|h9
        · exact hc k h9
        · obtain rfl:k=i:=by omega
          intro _;rw [←e];exact h6
      · exact .inr (by rw [←e];exact h5)
    · rcases h5 with ⟨e5,_⟩|h5
      · rw [e5];exact .inr hd
      · exact .inr oz
end
structure zg (nx:Int→List Int) (n:Nat) (a o:List Bool) (t:Nat):Prop where
  len:o.length=n
  mono:∀r:Nat,a.getD r false=true→o.getD r false=true
  min:∀Q:Int→Prop,(∀r:Nat,a.getD r false=true→Q r)→(∀s,Q s→∀t,t∈nx s→Q t)→∀r:Nat,o.getD r false=true→Q r
  Nh:(∀k,k<n→yZ nx o k)∨cf o+t+1≤n
section
variable {nx:Int→List Int} {n:Nat} {a o o':List Bool} {t i:Nat}
theorem zg.start (h:a.length=n):zg nx n a a 0:=by
  refine ⟨h,fun _ h=>h,fun Q h0 _=>h0,?_⟩
  by_cases hx:∃i,i<n∧a.getD i false=true
  · obtain ⟨i,hi,h9⟩:=hx
    right
    have key:∀(l:List Bool),true∈l→cf l+1≤l.length:=by
      intro l
      induction l with
      | nil=>intro h;cases h
      | cons x l ih=>
        intro h
        have h2:=RG l
        unfold cf at*
        cases x with
        | true=>simp only [List.filter_cons,Bool.not_true,Bool.false_eq_true,if_false,List.length_cons];omega
        | false=>
          have h3:true∈l:=by simpa using h
          have:=ih h3
          simp only [List.filter_cons,Bool.not_false,if_true,List.length_cons];omega
    have hm:true∈a:=by rw [←h9];exact au oz
    have:=key a hm;omega
  · left
    intro k hk h9
    exact absurd ⟨k,hk,h9⟩ hx
theorem zg.round (hb:∀s:Int,0≤s→s<(n:Int)→∀t,t∈nx s→0≤t∧t<(n:Int)) (h:zg nx n a o t) (hj:zf nx n o o' i) (hi:i=n):zg nx n a o' (t+1):=by
  refine ⟨hj.len,fun r hr=>hj.mono r (h.mono r hr),fun Q h0 hc=>hj.min Q (h.min Q h0 hc) hc,?_⟩
  rcases hj.Nh with ⟨e,hc⟩|hd
  · left;intro k hk;rw [e];exact hc k oz
  · rcases h.Nh with hc|hd2
    ·
      exfalso
      have MP:∀r:Nat,o'.getD r false=true→o.getD r false=true:=by
        intro r hr
        have:=hj.min (fun x=>0≤x∧o.getD x.toNat false=true∧x<(n:Int)) (fun r hr=>⟨by omega,by simpa using hr,by
          rcases Nat.lt_or_ge r n with h1|h1
          · omega
          · rw [List.getD_eq_getElem?_getD,List.getElem?_eq_none (by rw [h.len];exact h1)] at hr;cases hr⟩) (fun s hs u hu=>by
            have h9:=hb s hs.1 hs.2.2 u hu
            exact ⟨h9.1,hc s.toNat oz hs.2.1 u (by rw [Int.toNat_of_nonneg hs.1];exact hu),h9.2⟩) r hr
        simpa using this.2.1
      have e:o'=o:=by
        apply List.ext_getElem?
        intro r
        rcases Nat.lt_or_ge r n with h1|h1
        · have e1:r<o'.length:=by rw [hj.len];exact h1
          have e2:r<o.length:=by rw [h.len];exact h1
          have x1:o'.getD r false=o'[r]:=by rw [List.getD_eq_getElem?_getD,List.getElem?_eq_getElem e1];rfl
          have x2:o.getD r false=o[r]:=by rw [List.getD_eq_getElem?_getD,List.getElem?_eq_getElem e2];rfl
          have a1:=MP r;have a2:=hj.mono r
          rw [x1,x2] at a1 a2
          rw [List.getElem?_eq_getElem e1,List.getElem?_eq_getElem e2]
          congr 1
          rw [Bool.eq_iff_iff];exact ⟨a1,a2⟩
        · rw [List.getElem?_eq_none (by rw [hj.len];exact h1),List.getElem?_eq_none (by rw [h.len];exact h1)]
      rw [e] at hd;omega
    · right;omega
theorem zg.fin (h:zg nx n a o t) (ht:¬t<n):∀k,k<n→yZ nx o k:=by
  rcases h.Nh with hc|hd
  · exact hc
  · omega
end
theorem zg.jZ {st:List ay} {sym:Int} {a o:List Bool} {t:Nat} (h:zg (vV st sym) st.length a o t) (ht:¬t<st.length):oT st (cF a) sym o:=by
  have hc:=h.fin ht
  refine ⟨h.len,fun x hx=>?_,fun s hs x hx=>?_,fun Q h0 h1 s hs=>?_⟩
  · obtain ⟨i,rfl,hi⟩:=gG.1 hx
    rw [Int.toNat_natCast];exact h.mono i hi
  · refine hc s ?_ hs x hx
    rcases Nat.lt_or_ge s st.length with h1|h1
    · exact h1
    · rw [List.getD_eq_getElem?_getD,List.getElem?_eq_none (by rw [h.len];exact h1)] at hs;cases hs
  · exact h.min Q (fun r hr=>h0 _ (gG.2 ⟨r,rfl,hr⟩)) h1 s hs
def FL (sym:Int) (s:ay):Bool:=decide (s.kind=3)||goN sym s
theorem x8 {st:List ay} {sym:Int} {i:Nat} (h:¬(st.getD i aq).kind=3) (hg:FL sym (st.getD i aq)=true) (o:List Bool):o.set (st.getD i aq).a.toNat true=jL o (vV st sym i):=by
  unfold FL at hg
  rw [decide_eq_false h,Bool.false_or] at hg
  rw [Ch (by rw [Int.toNat_natCast];exact h) (by rw [Int.toNat_natCast];exact hg),Int.toNat_natCast];rfl
theorem ph {st:List ay} {sym:Int} {i:Nat} (h:¬(st.getD i aq).kind=3) (hg:¬FL sym (st.getD i aq)=true) (o:List Bool):o=jL o (vV st sym i):=by
  unfold FL at hg
  rw [decide_eq_false h,Bool.false_or] at hg
  rw [sB (by rw [Int.toNat_natCast];exact h) (by rw [Int.toNat_natCast];exact hg)];rfl
theorem set_comm {o:List Bool} (i j:Nat):(o.set i true).set j true=(o.set j true).set i true:=by
  by_cases h:i=j
  · rw [h]
  · exact List.set_comm _ _ h
theorem mW {st:List ay} {sym:Int} {i:Nat} (h:(st.getD i aq).kind=3) (o:List Bool):(o.set (st.getD i aq).a.toNat true).set (st.getD i aq).b.toNat true=jL o (vV st sym i):=by
  rw [p7 (by rw [Int.toNat_natCast];exact h),Int.toNat_natCast,set_comm];rfl
theorem ni {sym:Int} {s:ay} (h:s.kind=3):FL sym s=true:=by unfold FL;rw [decide_eq_true h];rfl
structure Vq (n:Nat) (l:List Int) (o:List Bool) (k:Nat):Prop where
  len:o.length=n
  mem:∀r:Nat,o.getD r false=true↔((r:Nat):Int)∈l.take k
theorem Vq.start (n:Nat) (l:List Int):Vq n l (List.replicate n false) 0:=⟨List.length_replicate ..,fun r=>by
  constructor
  · intro h
    rw [List.getD_eq_getElem?_getD,List.getElem?_replicate] at h
    split at h<;>simp at h
  · intro h;simp at h⟩
theorem Vq.step {n k:Nat} {l:List Int} {o:List Bool} {x:Int} (h:Vq n l o k) (hk:k<l.length) (e:l.getD k 0=x) (hb:0≤x∧x<(n:Int)):Vq n l (o.set x.toNat true) (k+1):=by
  subst e
  refine ⟨by rw [List.length_set];exact h.len,fun r=>?_⟩
  rw [jU (by rw [h.len];omega),gw 0 hk,List.mem_append,List.mem_singleton]
  by_cases e:(l.getD k 0).toNat=r
  · rw [if_pos e];exact ⟨fun _=> .inr oz,fun _=>rfl⟩
  · rw [if_neg e,h.mem r]
    exact ⟨fun h9=> .inl h9,fun h9=>h9.resolve_right (fun h8=>e oz)⟩
theorem Vq.fin {n k:Nat} {l:List Int} {o:List Bool} (h:Vq n l o k) (hk:l.length≤k) (hr:∀t,t∈l→0≤t):∀t,t∈cF o↔t∈l:=by
  intro t
  rw [gG]
  constructor
  · rintro ⟨i,rfl,hi⟩
    have:=(h.mem i).1 hi
    rwa [List.take_of_length_le hk] at this
  · intro ht
    refine ⟨t.toNat,by have:=hr t ht;omega,(h.mem _).2 ?_⟩
    rw [List.take_of_length_le hk,Int.toNat_of_nonneg (hr t ht)];exact ht
structure we (st:List ay) (a:List Bool) (b:Nat) (o:List Bool) (k:Nat):Prop where
  len:o.length=st.length
  mem:∀r:Nat,o.getD r false=true↔∃i:Nat,i<k∧a.getD i false=true∧je st b i=true∧(st.getD i aq).a.toNat=r
theorem we.start (st:List ay) (a:List Bool) (b:Nat):we st a b (List.replicate st.length false) 0:=⟨List.length_replicate ..,fun r=>by
  constructor
  · intro h
    rw [List.getD_eq_getElem?_getD,List.getElem?_replicate] at h
    split at h<;>simp at h
  · rintro ⟨i,h,_⟩;omega⟩
theorem we.no {st:List ay} {a o:List Bool} {b k:Nat} (h:we st a b o k) (hn:¬(a.getD k false&&je st b k)=true):we st a b o (k+1):=⟨h.len,fun r=>by
  rw [h.mem r]
  constructor
  · rintro ⟨i,h1,h2⟩;exact ⟨i,by omega,h2⟩
  · rintro ⟨i,h1,h2,h3,h4⟩
    rcases Nat.lt_or_ge i k with h9|h9
    · exact ⟨i,h9,h2,h3,h4⟩
    · obtain rfl:i=k:=by omega
      exact absurd (by rw [h2,h3];rfl) hn⟩
theorem we.yes {st:List ay} {a o:List Bool} {b k:Nat} (h:we st a b o k) (hy:(a.getD k false&&je st b k)=true) (hb:(st.getD k aq).a.toNat<st.length):we st a b (o.set (st.getD k aq).a.toNat true) (k+1):=by
  rw [Bool.and_eq_true] at hy
  refine ⟨by rw [List.length_set];exact h.len,fun r=>?_⟩
  rw [jU (by rw [h.len];exact hb)]
  by_cases e:(st.getD k aq).a.toNat=r
  · rw [if_pos e];exact ⟨fun _=>⟨k,by omega,hy.1,hy.2,e⟩,fun _=>rfl⟩
  · rw [if_neg e,h.mem r]
    constructor
    · rintro ⟨i,h1,h2⟩;exact ⟨i,by omega,h2⟩
    · rintro ⟨i,h1,h2,h3,h4⟩
      rcases Nat.lt_or_ge i k with h9|h9
      · exact ⟨i,h9,h2,h3,h4⟩
      · obtain rfl:i=k:=by omega
        exact absurd h4 e
theorem we.fin {st:List ay} {s0 f0:Int} {a o:List Bool} {b k:Nat} (hN:oU st s0 f0) (h:we st a b o k) (ha:a.length=st.length) (hk:st.length≤k):∀t,t∈cF o↔t∈ef st (cF a) b:=by
  intro t
  rw [gG]
  unfold ef
  constructor
  · rintro ⟨r,rfl,hr⟩
    obtain ⟨i,h1,h2,h3,h4⟩:=(h.mem r).1 hr
    refine List.mem_map.2 ⟨(i:Int),List.mem_filter.2 ⟨gG.2 ⟨i,rfl,h2⟩,h3⟩,?_⟩
    rw [Int.toNat_natCast]
    have hi:i<st.length:=by
      rcases Nat.lt_or_ge i st.length with h9|h9
      · exact h9
      · rw [List.getD_eq_getElem?_getD,List.getElem?_eq_none (by rw [ha];exact h9)] at h2;cases h2
    have:=(hN.IQ i hi).1.2.2.2.2.2.1
    omega
  · intro ht
    obtain ⟨x,hx,rfl⟩:=List.mem_map.1 ht
    obtain ⟨h1,h2⟩:=List.mem_filter.1 hx
    obtain ⟨i,rfl,hi⟩:=gG.1 h1
    rw [Int.toNat_natCast]
    have MZ:i<st.length:=by
      rcases Nat.lt_or_ge i st.length with h9|h9
      · exact h9
      · rw [List.getD_eq_getElem?_getD,List.getElem?_eq_none (by rw [ha];exact h9)] at hi;cases hi
    have:=(hN.IQ i MZ).1.2.2.2.2.2.1
    exact ⟨(st.getD i aq).a.toNat,by omega,(h.mem _).2 ⟨i,by omega,hi,h2,rfl⟩⟩
def lL (os:List (List Bool)) (x:List Bool):Int:=if x∈os then ((ix x os:Nat):Int) else-1
theorem Nb {os:List (List Bool)} {x:List Bool} {i:Nat} (hi:i<os.length) (h:os.getD i []=x) (hn:∀j,j<i→os.getD j []≠x):lL os x=(i:Int):=by
  have hm:x∈os:=by rw [←h];exact au hi
  unfold lL;rw [if_pos hm]
  congr 1
  have key:∀(os:List (List Bool)) (i:Nat),i<os.length→os.getD i []=x→(∀j,j<i→os.getD j []≠x)→ix x os=i:=by
    intro os
    induction os with
    | nil=>intro i hi;cases hi
    | cons y os ih=>
      intro i hi h hn
      cases i with
      | zero=>simp at h;subst h;simp [ix]
      | succ i=>
        have h0:=hn 0 oz
        simp at h0
        have:=ih i (by simpa using hi) (by simpa using h) (fun j hj=>by simpa using hn (j+1) oz)
        rw [ix,if_neg (fun e=>h0 e.symm),this]
  exact key os i hi h hn
theorem QX {os:List (List Bool)} {x:List Bool} (hn:∀j,j<os.length→os.getD j []≠x):lL os x= -1:=by
  unfold lL;rw [if_neg]
  intro hm
  obtain ⟨i,hi,e⟩:=List.mem_iff_getElem.1 hm
  refine hn i hi ?_
  rw [List.getD_eq_getElem?_getD,List.getElem?_eq_getElem hi];exact e
theorem ql {os:List (List Bool)} {x:List Bool} (h:lL os x<0):dM os x=os++[x]∧((ix x (dM os x):Nat):Int)=(os.length:Int):=by
  have hx:x∉os:=fun hm=>by unfold lL at h;rw [if_pos hm] at h;omega
  exact ⟨if_neg hx,by rw [KI,if_neg hx]⟩
theorem qk {os:List (List Bool)} {x:List Bool} (h:¬lL os x<0):dM os x=os∧((ix x (dM os x):Nat):Int)=lL os x:=by
  have hx:x∈os:=Classical.byContradiction fun hx=>h (by unfold lL;rw [if_neg hx];omega)
  have e:dM os x=os:=if_pos hx
  exact ⟨e,by rw [e];unfold lL;rw [if_pos hx]⟩
def ri (y x:List Bool) (k:Nat):Bool:=decide (∀q,q<k→y.getD q false=x.getD q false)
theorem Ek (y x:List Bool):ri y x 0=true:=decide_eq_true (fun q hq=>by omega)
theorem vd (y x:List Bool) (k:Nat):ri y x (k+1)=(ri y x k&&decide (y.getD k false=x.getD k false)):=by
  unfold ri
  rw [Bool.eq_iff_iff,Bool.and_eq_true,decide_eq_true_eq,decide_eq_true_eq,decide_eq_true_eq]
  exact ⟨fun h=>⟨fun q hq=>h q oz,h k oz⟩,fun h q hq=>(Nat.lt_or_ge q k).elim (h.1 q) (fun h9=>by (obtain rfl:q=k:=by omega);exact h.2)⟩
theorem xB {y x:List Bool} (hl:y.length=x.length):ri y x x.length=true↔y=x:=by
  unfold ri
  rw [decide_eq_true_eq]
  constructor
  · intro h;exact eM (d:=false) hl (fun i hi=>h i oz)
  · rintro rfl;intro q _;rfl
theorem B8 {ps:List (LR Bool)} {os:List (List Bool)} (h:ps.map LR.xs=os) (i:Nat):(ps.getD i ai).xs=os.getD i []:=by
  subst h
  simp only [List.getD_eq_getElem?_getD,List.getElem?_map]
  rcases ps[i]? with _|p<;>rfl
theorem Xl {d:ar} (hr:aN d=true) {s t:Int} :t∈Kr d s↔∃c:Int,(0≤c∧c<259)∧bA d s c=t:=by
  have h1:=(bo.1 hr).1.1
  rw [Kq,h1]
  constructor
  · rintro ⟨i,hi,e⟩;exact ⟨(i:Int),by omega,by unfold bA;rw [Int.toNat_natCast];exact e⟩
  · rintro ⟨c,hc,e⟩;exact ⟨c.toNat,by omega,e⟩
theorem To.sym {d:ar} (hr:aN d=true) {s t c:Int} (h:To d s t) (hc:0≤c∧c<259):To d s (bA d t c):=h.snoc ((Xl hr).2 ⟨c,hc,rfl⟩)
def StR (d:ar) (k i:Nat):Prop:=pQ d (k:Int) d (i:Int)
def Am (d:ar) (k sym:Nat):Prop:=∀s:Nat,s<d.acc.length→To d d.start (s:Int)→pQ d (bA d (s:Int) (k:Int)) d (bA d (s:Int) (sym:Int))
theorem OI (d:ar) (n:Nat):EqR (StR d) n:=⟨fun i _=>pQ.refl d i,fun i k _ _ h=>pQ.symm h,fun i j k _ _ _ h1 h2=>pQ.trans h1 h2⟩
theorem wy (d:ar) (n:Nat):EqR (Am d) n:=⟨fun i _ s _ _=>pQ.refl d _,fun i k _ _ h s h1 h2=>(h s h1 h2).symm,fun i j k _ _ _ h1 h2 s h3 h4=>(h1 s h3 h4).trans (h2 s h3 h4)⟩
noncomputable def pJ (d:ar):List Int:=Classical.choose (tD.ex (StR d) (fun i=>pQ.refl d i) d.acc.length)
noncomputable def dA (d:ar):List Int:=Classical.choose (tD.ex (Am d) (fun i s _ _=>pQ.refl d _) 259)
theorem uL (d:ar):tD (StR d) (pJ d) d.acc.length:=Classical.choose_spec (tD.ex (StR d) (fun i=>pQ.refl d i) d.acc.length)
theorem jJ (d:ar):tD (Am d) (dA d) 259:=Classical.choose_spec (tD.ex (Am d) (fun i s _ _=>pQ.refl d _) 259)
noncomputable def uM (d:ar):List Int:=bp (pJ d)
theorem y9 (d:ar):(uM d).length=d.acc.length:=by rw [uM,gE,(uL d).len]
theorem Lu.q {d:ar} (hr:aN d=true) {f:List Int} (h:Lu d f d.acc.length):tD (StR d) f d.acc.length:=
  ⟨h.len,fun i hi=>by
    have h1:=h.val i hi
    refine ⟨h1.1,h1.2.1,(wQ hr oz hi).1 (fun h9=>h1.2.2.1 (yQ h9)),fun k hk h9=>?_⟩
    exact (wQ hr oz hi).2 h9 (yQ (h1.2.2.2 k hk))⟩
theorem Lu.eq {d:ar} (hr:aN d=true) {f:List Int} (h:Lu d f d.acc.length):f=pJ d:=(h.q hr).uniq (uL d)
def dn (bl:List Int) (s:Int):Int:=bl.getD s.toNat 0
def wm (d:ar) (bl:List Int):Prop:=∀s t:Int,0≤s∧s<(d.acc.length:Int)→0≤t∧t<(d.acc.length:Int)→(dn bl s=dn bl t↔pQ d s d t)
theorem Jp (d:ar):wm d (uM d):=fun s t hs ht=>by
  have hl:=(uL d).len
  have h1:=l6 (l:=pJ d) (i:=s.toNat) (k:=t.toNat) oz oz
  have h2:=(uL d).kernel (OI d _) (i:=s.toNat) (k:=t.toNat) oz oz
  unfold StR at h2
  rw [Int.toNat_of_nonneg hs.1,Int.toNat_of_nonneg ht.1] at h2
  rw [←h2]
  have e1:s.toNat<(bp (pJ d)).length:=by rw [gE];omega
  have e2:t.toNat<(bp (pJ d)).length:=by rw [gE];omega
  unfold dn uM
  simp only [List.getD_eq_getElem?_getD,List.getElem?_eq_getElem e1,List.getElem?_eq_getElem e2,List.getElem?_eq_getElem (show s.toNat<(pJ d).length by omega),List.getElem?_eq_getElem (show t.toNat<(pJ d).length by omega),Option.getD_some,Option.some.injEq] at h1 ⊢
  exact h1
def eC (d:ar) (bl:List Int) (s:Int) (p:List Int×List Int) (sym:Int):List Int×List Int:=
  if dn bl (bA d s sym)∈p.1.map (dn bl) then (p.1,p.2++[((ix (dn bl (bA d s sym)) (p.1.map (dn bl)):Nat):Int)])
  else (p.1++[bA d s sym],p.2++[(p.1.length:Int)])
def cE (d:ar) (bl fs:List Int):Nat→Nat→List Int×List Int→List Int×List Int
  | 0,_,p=>p
  | f+1,at_,p=>if at_<p.1.length then cE d bl fs f (at_+1) (fs.foldl (eC d bl (p.1.getD at_ 0)) p) else p
theorem HZ {d:ar} {bl fs:List Int} {F at_:Nat} {p:List Int×List Int} (hF:at_<F) (h:at_<p.1.length):
    cE d bl fs (F-at_) at_ p=cE d bl fs (F-(at_+1)) (at_+1) (fs.foldl (eC d bl (p.1.getD at_ 0)) p):=by
  have e:F-at_=(F-(at_+1))+1:=by omega
  rw [e,cE,if_pos h]
theorem E5 {d:ar} {bl fs:List Int} {F at_:Nat} {p:List Int×List Int} (h:¬at_<p.1.length):cE d bl fs F at_ p=p:=by
  cases F with
  | zero=>rfl
  | succ F=>rw [cE,if_neg h]
theorem P9 (d:ar) (bl:List Int) (s:Int) (p:List Int×List Int) (c:Int):∃r,(eC d bl s p c).1=p.1++r:=by
  unfold eC;split
  · exact ⟨[],by simp⟩
  · exact ⟨_,rfl⟩
theorem lJ {l r:List Int} {i:Nat} (h:i<l.length):(l++r).getD i 0=l.getD i 0:=by
  simp only [List.getD_eq_getElem?_getD,List.getElem?_append_left h]
theorem qj {l:List Int} {x:Int} :(l++[x]).getD l.length 0=x:=by simp [List.getD_eq_getElem?_getD]
structure nH (d:ar) (fs:List Int) (p:List Int×List Int) (at_ j:Nat):Prop where
  pos:0<p.1.length
  head:p.1.getD 0 0=d.start
  k8:∀i,i<p.1.length→(0≤p.1.getD i 0∧p.1.getD i 0<(d.acc.length:Int))∧To d d.start (p.1.getD i 0)
  nd:∀i k,i<k→k<p.1.length→¬pQ d (p.1.getD i 0) d (p.1.getD k 0)
  zW:p.2.length=at_*fs.length+j
  nx:∀m,m<p.2.length→(0≤p.2.getD m 0∧p.2.getD m 0<(p.1.length:Int))∧m/fs.length<p.1.length∧pQ d (p.1.getD (p.2.getD m 0).toNat 0) d (bA d (p.1.getD (m/fs.length) 0) (fs.getD (m%fs.length) 0))
  met:∀i,0<i→i<p.1.length→∃m,m<p.2.length∧m/fs.length<i∧p.2.getD m 0=(i:Int)
theorem nH.start {d:ar} (hr:aN d=true) (fs:List Int):nH d fs ([d.start],[]) 0 0:=by
  have hs:=(bo.1 hr).1.2.2.2.2.2.2
  refine ⟨by simp,rfl,fun i hi=>?_,fun i k h1 h2=>?_,by simp,fun m hm=>by simp at hm,fun i h1 h2=>?_⟩
  · have:i=0:=by simp at hi;exact hi
    subst this;exact ⟨hs,.refl _⟩
  · simp at h2;omega
  · simp at h2;omega
theorem nH.bound {d:ar} {fs:List Int} {p:List Int×List Int} {at_ j:Nat} (h:nH d fs p at_ j):p.1.length≤d.acc.length:=by
  have key:=yf d.acc.length (p.1.map Int.toNat) ?_ ?_
  · simpa using key
  · rw [List.nodup_iff_pairwise_ne,List.pairwise_iff_getElem]
    intro i k hi hk hik e
    simp only [List.length_map] at hi hk
    simp only [List.getElem_map] at e
    have r1:=(h.k8 i hi).1
    have r2:=(h.k8 k hk).1
    refine h.nd i k hik hk ?_
    have e1:p.1.getD i 0=p.1[i]:=by simp [List.getD_eq_getElem?_getD,List.getElem?_eq_getElem hi]
    have e2:p.1.getD k 0=p.1[k]:=by simp [List.getD_eq_getElem?_getD,List.getElem?_eq_getElem hk]
    rw [e1] at r1 ⊢
    rw [e2] at r2 ⊢
    have:p.1[i]=p.1[k]:=by omega
    rw [this];exact pQ.refl _ _
  · intro x hx
    obtain ⟨y,hy,rfl⟩:=List.mem_map.1 hx
    obtain ⟨i,hi,rfl⟩:=List.mem_iff_getElem.1 hy
    have r1:=(h.k8 i hi).1
    have e1:p.1.getD i 0=p.1[i]:=by simp [List.getD_eq_getElem?_getD,List.getElem?_eq_getElem hi]
    rw [e1] at r1;omega
theorem adH {a W j:Nat} (h:j<W):(a*W+j)/W=a∧(a*W+j)%W=j:=by
  constructor
  · rw [Nat.mul_comm,Nat.mul_add_div oz,Nat.div_eq_of_lt h];omega
  · rw [Nat.mul_comm,Nat.mul_add_mod,Nat.mod_eq_of_lt h]
theorem P8 {d:ar} {bl:List Int} (hb:wm d bl) {l:List Int} (hl:∀i,i<l.length→0≤l.getD i 0∧l.getD i 0<(d.acc.length:Int)) {t:Int} (ht:0≤t∧t<(d.acc.length:Int)):
    (dn bl t∈l.map (dn bl)↔∃i,i<l.length∧pQ d t d (l.getD i 0))∧∀i,i<l.length→((l.map (dn bl))[i]?=some (dn bl t)↔pQ d (l.getD i 0) d t):=by
  have key:∀i,i<l.length→((l.map (dn bl))[i]?=some (dn bl t)↔pQ d (l.getD i 0) d t):=fun i hi=>by
    have e1:l.getD i 0=l[i]:=by simp [List.getD_eq_getElem?_getD,List.getElem?_eq_getElem hi]
    have h1:=hl i hi
    rw [e1] at h1 ⊢
    rw [List.getElem?_map,List.getElem?_eq_getElem hi,Option.map_some,Option.some.injEq,hb _ _ h1 ht]
  refine ⟨⟨fun h=>?_,fun ⟨i,hi,h⟩=>?_⟩,key⟩
  · obtain ⟨i,hi,e⟩:=List.mem_iff_getElem?.1 h|>fun ⟨i,e⟩=>(⟨i,by have:=(List.getElem?_eq_some_iff.1 e).1;simpa using this,e⟩:∃i,i<l.length∧(l.map (dn bl))[i]?=some (dn bl t))
    exact ⟨i,hi,((key i hi).1 e).symm⟩
  · exact List.mem_of_getElem? ((key i hi).2 h.symm)
theorem nH.step {d:ar} (hr:aN d=true) {bl fs:List Int} (hb:wm d bl) {p:List Int×List Int} {at_ j:Nat} {s:Int} (h:nH d fs p at_ j) (iP:at_<p.1.length) (hj:j<fs.length) (hc:0≤fs.getD j 0∧fs.getD j 0<259) (hs:s=p.1.getD at_ 0):
    nH d fs (eC d bl s p (fs.getD j 0)) at_ (j+1):=by
  subst hs
  have hsr:=h.k8 at_ iP
  have ht:=k4 hr hsr.1.1 hsr.1.2 hc
  have VY:=hsr.2.sym hr hc
  have hm:=P8 hb (l:=p.1) (fun i hi=>(h.k8 i hi).1) ht
  have Ul:=adH (a:=at_) hj
  rw [←h.zW] at Ul
  unfold eC
  split
  · rename_i DH
    have cX:=pv DH
    rw [List.length_map] at cX
    have acy:=nW (d:=0) DH
    have hL:pQ d (p.1.getD (ix (dn bl (bA d (p.1.getD at_ 0) (fs.getD j 0))) (p.1.map (dn bl))) 0) d (bA d (p.1.getD at_ 0) (fs.getD j 0)):=by
      refine (hm.2 _ cX).1 ?_
      rw [List.getD_eq_getElem?_getD,List.getElem?_eq_getElem (by rw [List.length_map];exact cX),Option.getD_some] at acy
      rw [List.getElem?_eq_getElem (by rw [List.length_map];exact cX),acy]
    refine ⟨h.pos,h.head,h.k8,h.nd,by simp [h.zW];omega,fun m zz=>?_,fun i h1 h2=>?_⟩
    · simp only [List.length_append,List.length_singleton] at zz
      by_cases e:m<p.2.length
      · simp only [lJ e];exact h.nx m e
      · have e2:m=p.2.length:=by omega
        subst e2
        simp only [qj,Ul.1,Ul.2]
        exact ⟨by omega,iP,by rw [Int.toNat_natCast];exact hL⟩
    · obtain ⟨m,q1,q2,q3⟩:=h.met i h1 h2
      exact ⟨m,by simp;omega,q2,by simp only [lJ q1];exact q3⟩
  · rename_i DH
    have hg:∀i,i<p.1.length→(p.1++[bA d (p.1.getD at_ 0) (fs.getD j 0)]).getD i 0=p.1.getD i 0:=fun i hi=>lJ hi
    have hgl:(p.1++[bA d (p.1.getD at_ 0) (fs.getD j 0)]).getD p.1.length 0=bA d (p.1.getD at_ 0) (fs.getD j 0):=qj
    refine ⟨by simp,by simp only [hg 0 h.pos];exact h.head,fun i hi=>?_,fun i k h1 h2=>?_,by simp [h.zW];omega,fun m zz=>?_,fun i h1 h2=>?_⟩
    · simp only [List.length_append,List.length_singleton] at hi
      by_cases e:i<p.1.length
      · simp only [hg i e];exact h.k8 i e
      · have e2:i=p.1.length:=by omega
        subst e2
        simp only [hgl];exact ⟨ht,VY⟩
    · simp only [List.length_append,List.length_singleton] at h2
      by_cases e:k<p.1.length
      · simp only [hg i oz,hg k e];exact h.nd i k h1 e
      · have e2:k=p.1.length:=by omega
        subst e2
        simp only [hg i h1,hgl]
        exact fun h9=>DH (hm.1.2 ⟨i,h1,h9.symm⟩)
    · simp only [List.length_append,List.length_singleton] at zz ⊢
      by_cases e:m<p.2.length
      · have q:=h.nx m e
        simp only [lJ e,hg _ q.2.1,hg _ (show (p.2.getD m 0).toNat<p.1.length by omega)]
        exact ⟨by omega,by omega,q.2.2⟩
      · have e2:m=p.2.length:=by omega
        subst e2
        simp only [qj,Ul.1,Ul.2,Int.toNat_natCast,hgl,hg at_ iP]
        exact ⟨by omega,by omega,pQ.refl _ _⟩
    · simp only [List.length_append,List.length_singleton] at h2 ⊢
      by_cases e:i<p.1.length
      · obtain ⟨m,q1,q2,q3⟩:=h.met i h1 e
        exact ⟨m,by omega,q2,by simp only [lJ q1];exact q3⟩
      · have e2:i=p.1.length:=by omega
        subst e2
        exact ⟨p.2.length,by omega,by rw [Ul.1];exact iP,qj⟩
theorem iq {d:ar} {bl fs:List Int} {s:Int} {p:List Int×List Int} {j:Nat} (h:j<fs.length):eC d bl s ((fs.take j).foldl (eC d bl s) p) (fs.getD j 0)=(fs.take (j+1)).foldl (eC d bl s) p:=by
  rw [cr 0 h,List.foldl_append];rfl
theorem kQ (d:ar) (bl:List Int) (s:Int):∀(fs:List Int) (p:List Int×List Int),∃r,(fs.foldl (eC d bl s) p).1=p.1++r
  | [],p=>⟨[],by simp⟩
  | c::fs,p=>by
    obtain ⟨r,h⟩:=P9 d bl s p c
    obtain ⟨r2,h2⟩:=kQ d bl s fs (eC d bl s p c)
    exact ⟨r++r2,by rw [List.foldl_cons,h2,h,List.append_assoc]⟩
theorem nH.upto {d:ar} (hr:aN d=true) {bl fs:List Int} (hb:wm d bl) (yB:∀j,j<fs.length→0≤fs.getD j 0∧fs.getD j 0<259) {p:List Int×List Int} {at_:Nat} (h:nH d fs p at_ 0) (iP:at_<p.1.length):
    ∀j,j≤fs.length→nH d fs ((fs.take j).foldl (eC d bl (p.1.getD at_ 0)) p) at_ j
  | 0,_=>h
  | j+1,hj=>by
    have ih:=nH.upto hr hb yB h iP j oz
    rw [←iq oz]
    obtain ⟨r,e⟩:=kQ d bl (p.1.getD at_ 0) (fs.take j) p
    exact ih.step hr hb (by rw [e,List.length_append];omega) oz (yB j oz) (by rw [e,lJ iP])
theorem nH.next {d:ar} {fs:List Int} {p:List Int×List Int} {at_ j:Nat} (h:nH d fs p at_ j) (hj:j=fs.length):nH d fs p (at_+1) 0:=
  ⟨h.pos,h.head,h.k8,h.nd,by rw [h.zW,hj,Nat.add_mul,Nat.one_mul,Nat.add_zero],h.nx,h.met⟩
theorem nH.fold {d:ar} (hr:aN d=true) {bl fs:List Int} (hb:wm d bl) (yB:∀j,j<fs.length→0≤fs.getD j 0∧fs.getD j 0<259) {p:List Int×List Int} {at_:Nat} (h:nH d fs p at_ 0) (iP:at_<p.1.length):
    nH d fs (fs.foldl (eC d bl (p.1.getD at_ 0)) p) (at_+1) 0:=by
  have h1:=nH.upto hr hb yB h iP fs.length (Nat.le_refl _)
  rw [List.take_length] at h1
  exact h1.next rfl
theorem nH.loop {d:ar} (hr:aN d=true) {bl fs:List Int} (hb:wm d bl) (yB:∀j,j<fs.length→0≤fs.getD j 0∧fs.getD j 0<259):∀(F at_:Nat) (p:List Int×List Int),nH d fs p at_ 0→at_≤p.1.length→d.acc.length<F+at_→
    nH d fs (cE d bl fs F at_ p) (cE d bl fs F at_ p).1.length 0
  | 0,at_,p,h,h1,h2=>by have:=h.bound;omega
  | F+1,at_,p,h,h1,h2=>by
    rw [cE]
    split
    · rename_i iP
      have h3:=h.fold hr hb yB iP
      obtain ⟨r,e⟩:=kQ d bl (p.1.getD at_ 0) fs p
      exact nH.loop hr hb yB F (at_+1) _ h3 (by rw [e,List.length_append];omega) oz
    · rename_i iP
      have:at_=p.1.length:=by omega
      subst this;exact h
noncomputable def eY (d:ar):List Int:=ax (bp (dA d)) ((dd (dA d)).length:Int)
noncomputable def kO (d:ar):List Int×List Int:=cE d (uM d) (eY d) 4097 0 ([d.start],[])
noncomputable def cJ (d:ar):ar:=⟨bp (dA d),((dd (dA d)).length:Int),0,(kO d).2,(kO d).1.map fun s=>d.acc.getD s.toNat false⟩
theorem wA (d:ar):1≤(dd (dA d)).length∧(dd (dA d)).length≤259:=by
  have h1:=I0 (dA d)
  rw [(jJ d).len] at h1
  refine ⟨?_,h1⟩
  have h2:(dA d).getD 0 0∈dA d:=au (by rw [(jJ d).len];omega)
  exact List.length_pos_of_mem ((dV _ _).2 h2)
theorem nY (d:ar):(eY d).length=(dd (dA d)).length:=by
  have:=wA d
  unfold eY;rw [kg];omega
theorem uw (d:ar) {c:Nat} (hc:c<(dd (dA d)).length):0≤(eY d).getD c 0∧(eY d).getD c 0<259∧(bp (dA d)).getD ((eY d).getD c 0).toNat 0=(c:Int):=by
  have hw:=wA d
  obtain ⟨i,hi,e⟩:=A4 hc
  have hl:(bp (dA d)).length=259:=by rw [gE,(jJ d).len]
  have hm:(c:Int)∈bp (dA d):=by rw [←e];exact au (by rw [gE];exact hi)
  have cX:=pv hm
  rw [eY,vA oz,dp,if_pos hm]
  exact ⟨by omega,by omega,by rw [Int.toNat_natCast];exact nW hm⟩
theorem Bn (d:ar):∀j,j<(eY d).length→0≤(eY d).getD j 0∧(eY d).getD j 0<259:=fun j hj=>by
  rw [nY] at hj
  have:=uw d hj
  exact ⟨this.1,this.2.1⟩
theorem BW (d:ar) {sym:Nat} (hs:sym<259):0≤(bp (dA d)).getD sym 0∧(bp (dA d)).getD sym 0<((dd (dA d)).length:Int):=by
  have hl:=(jJ d).len
  rw [A8 oz]
  have:=pv ((dV (dA d) _).2 (au (d:=0) (show sym<(dA d).length by omega)))
  omega
theorem II (d:ar) {sym:Nat} (hs:sym<259):Am d ((eY d).getD ((bp (dA d)).getD sym 0).toNat 0).toNat sym:=by
  have hb:=BW d hs
  have hl:=(jJ d).len
  have hh:=uw d (c:=((bp (dA d)).getD sym 0).toNat) oz
  rw [Int.toNat_of_nonneg hb.1] at hh
  refine ((jJ d).kernel (wy d 259) oz hs).1 ?_
  have h1:=l6 (l:=dA d) (i:=((eY d).getD ((bp (dA d)).getD sym 0).toNat 0).toNat) (k:=sym) oz oz
  have l1:((eY d).getD ((bp (dA d)).getD sym 0).toNat 0).toNat<(bp (dA d)).length:=by rw [gE];omega
  have l2:sym<(bp (dA d)).length:=by rw [gE];omega
  have h2:(bp (dA d))[((eY d).getD ((bp (dA d)).getD sym 0).toNat 0).toNat]?=(bp (dA d))[sym]?:=by
    rw [List.getElem?_eq_getElem l1,List.getElem?_eq_getElem l2]
    have h3:=hh.2.2
    rw [List.getD_eq_getElem?_getD,List.getElem?_eq_getElem l1,Option.getD_some] at h3
    rw [h3,List.getD_eq_getElem?_getD,List.getElem?_eq_getElem l2,Option.getD_some]
  have h4:=h1.1 h2
  have gd:∀k,(dA d).getD k 0=((dA d)[k]?).getD 0:=fun k=>List.getD_eq_getElem?_getD ..
  rw [gd,gd,h4]
theorem Cj {d:ar} (hr:aN d=true):nH d (eY d) (kO d) (kO d).1.length 0:=by
  have hn:=(bo.1 hr).1.2.2.2.2.1
  exact nH.loop hr (Jp d) (Bn d) 4097 0 _ (nH.start hr _) (by simp) oz
theorem Iu {d:ar} (hr:aN d=true):(cJ d).acc.length=(kO d).1.length∧(cJ d).acc.length≤d.acc.length∧1≤(cJ d).acc.length:=by
  have h:=Cj hr
  have e:(cJ d).acc.length=(kO d).1.length:=by simp [cJ]
  exact ⟨e,by rw [e];exact h.bound,by rw [e];exact h.pos⟩
theorem Cy {d:ar} (hr:aN d=true):aN (cJ d)=true:=by
  have h:=Cj hr
  have hl:=Iu hr
  have hw:=wA d
  have hn:=(bo.1 hr).1.2.2.2.2.1
  refine bo.2 ⟨⟨?_,?_,?_,?_,?_,?_,?_,?_⟩,?_,?_⟩
  · show (bp (dA d)).length=259;rw [gE,(jJ d).len]
  · show (1:Int)≤((dd (dA d)).length:Int);omega
  · show ((dd (dA d)).length:Int)≤259;omega
  · exact hl.2.2
  · omega
  · show ((kO d).2.length:Int)=_
    rw [hl.1,h.zW,nY]
    show _=(((kO d).1.length:Nat):Int)*(((dd (dA d)).length:Nat):Int)
    rw [←Int.natCast_mul];simp
  · show (0:Int)≤0;omega
  · show (0:Int)<_;omega
  · exact Az fun i hi=>BW d (by have h1:i<(bp (dA d)).length:=hi;rw [gE,(jJ d).len] at h1;exact h1)
  · refine Az fun i hi=>?_
    have h1:=(h.nx i hi).1
    rw [hl.1]
    exact h1
theorem Ff {d:ar} (hr:aN d=true) {i:Nat} (hi:i<(kO d).1.length) {c:Int} (hc:0≤c∧c<259):
    (0≤bA (cJ d) (i:Int) c∧bA (cJ d) (i:Int) c<((kO d).1.length:Int))∧pQ d ((kO d).1.getD (bA (cJ d) (i:Int) c).toNat 0) d (bA d ((kO d).1.getD i 0) c):=by
  have h:=Cj hr
  have hb:=BW d (sym:=c.toNat) oz
  have hs:=II d (sym:=c.toNat) oz
  have hlh:=nY d
  have e1:bA (cJ d) (i:Int) c=(kO d).2.getD (i*(eY d).length+((bp (dA d)).getD c.toNat 0).toNat) 0:=by
    unfold bA
    show (kO d).2.getD (((i:Nat):Int)*((dd (dA d)).length:Int)+(bp (dA d)).getD c.toNat 0).toNat 0=_
    congr 1
    rw [hlh]
    have h1:(((i:Nat):Int)*((dd (dA d)).length:Int))=((i*(dd (dA d)).length:Nat):Int):=by rw [Int.natCast_mul]
    omega
  have cX:((bp (dA d)).getD c.toNat 0).toNat<(eY d).length:=by omega
  have hm:i*(eY d).length+((bp (dA d)).getD c.toNat 0).toNat<(kO d).2.length:=by
    rw [h.zW]
    have h2:=Nat.mul_le_mul_right (eY d).length (show i+1≤(kO d).1.length by omega)
    rw [Nat.add_mul,Nat.one_mul] at h2
    omega
  have hx:=h.nx _ hm
  have Ul:=adH (a:=i) cX
  rw [Ul.1,Ul.2] at hx
  rw [e1]
  refine ⟨hx.1,hx.2.2.trans ?_⟩
  have wH:=h.k8 i hi
  have h3:=hs ((kO d).1.getD i 0).toNat oz (by rw [Int.toNat_of_nonneg wH.1.1];exact wH.2)
  have h4:=uw d (c:=((bp (dA d)).getD c.toNat 0).toNat) oz
  rw [Int.toNat_of_nonneg wH.1.1,Int.toNat_of_nonneg hc.1,Int.toNat_of_nonneg h4.1] at h3
  exact h3
theorem sR {d:ar} (hr:aN d=true):∀(w:List Int) (i:Nat),i<(kO d).1.length→okW w→kh (cJ d) (i:Int) w=kh d ((kO d).1.getD i 0) w
  | [],i,hi,_=>by
    show ((kO d).1.map fun s=>d.acc.getD s.toNat false).getD (i:Int).toNat false=d.acc.getD ((kO d).1.getD i 0).toNat false
    rw [Int.toNat_natCast]
    simp [List.getD_eq_getElem?_getD,List.getElem?_eq_getElem hi]
  | c::w,i,hi,hw=>by
    have h1:=Ff hr hi hw.tail.1
    have ih:=sR hr w (bA (cJ d) (i:Int) c).toNat oz hw.tail.2
    rw [Int.toNat_of_nonneg h1.1.1] at ih
    show kh (cJ d) (bA (cJ d) (i:Int) c) w=kh d (bA d ((kO d).1.getD i 0) c) w
    rw [ih]
    exact h1.2 w hw.tail.2
theorem It {d:ar} (hr:aN d=true) {i:Nat} (hi:i<(kO d).1.length):pQ (cJ d) (i:Int) d ((kO d).1.getD i 0):=fun w hw=>sR hr w i hi hw
theorem Fg {d:ar} (hr:aN d=true):pQ (cJ d) (cJ d).start d d.start:=by
  have h:=Cj hr
  have h1:=It hr h.pos
  rw [h.head] at h1
  exact h1
def zh (mm:List (Int×Int)) (met:List Int):Prop:=∀x,getM mm x=if x∈met then some ((ix x met:Nat):Int) else none
theorem zh.start (b:Int):zh (jN [] b 0) [b]:=fun x=>by
  rw [s3]
  by_cases e:x=b
  · subst e;simp [ix]
  · rw [if_neg e,if_neg (by simpa using e)];rfl
theorem zh.new {mm:List (Int×Int)} {met:List Int} {b:Int} (h:zh mm met) (hb:b∉met):zh (jN mm b ((met.length:Nat):Int)) (met++[b]):=fun x=>by
  rw [s3]
  by_cases e:x=b
  · subst e;rw [if_pos rfl,if_pos (by simp),nV hb]
  · rw [if_neg e,h x]
    by_cases e2:x∈met
    · rw [if_pos e2,if_pos (List.mem_append_left _ e2),pw _ e2]
    · rw [if_neg e2,if_neg (by simp only [List.mem_append,List.mem_singleton];exact fun h9=>h9.elim e2 e)]
theorem PX {d:ar} {bl fs hs nx tt mx:List Int} {mj:List (Int×Int)} {s:Int} {j:Nat} (hF:(tt,mx)=(fs.take j).foldl (eC d bl s) (hs,nx)) (hM:zh mj (tt.map (dn bl))) (hj:j<fs.length)
    (hc:(getM mj (dn bl (bA d s (fs.getD j 0)))).isSome=true):(tt,mx++[(getM mj (dn bl (bA d s (fs.getD j 0)))).getD 0])=(fs.take (j+1)).foldl (eC d bl s) (hs,nx):=by
  rw [←iq hj,←hF]
  rw [hM] at hc ⊢
  by_cases h:dn bl (bA d s (fs.getD j 0))∈tt.map (dn bl)
  · unfold eC;rw [if_pos h,if_pos h];rfl
  · rw [if_neg h] at hc;cases hc
theorem Ck {d:ar} {bl fs hs nx tt mx:List Int} {mj:List (Int×Int)} {s:Int} {j:Nat} (hF:(tt,mx)=(fs.take j).foldl (eC d bl s) (hs,nx)) (hM:zh mj (tt.map (dn bl))) (hj:j<fs.length)
    (hc:¬(getM mj (dn bl (bA d s (fs.getD j 0)))).isSome=true):(tt++[bA d s (fs.getD j 0)],mx++[((tt.length:Nat):Int)])=(fs.take (j+1)).foldl (eC d bl s) (hs,nx)∧
      zh (jN mj (dn bl (bA d s (fs.getD j 0))) ((tt.length:Nat):Int)) ((tt++[bA d s (fs.getD j 0)]).map (dn bl)):=by
  rw [←iq hj,←hF]
  rw [hM] at hc
  by_cases h:dn bl (bA d s (fs.getD j 0))∈tt.map (dn bl)
  · rw [if_pos h] at hc;exact absurd rfl hc
  · refine ⟨by unfold eC;rw [if_neg h],?_⟩
    have:=hM.new h
    rw [List.length_map] at this
    rw [List.map_append];exact this
theorem Kt {d:ar} {bl fs hs nx tt mx:List Int} {s:Int} {j:Nat} (hF:(tt,mx)=(fs.take j).foldl (eC d bl s) (hs,nx)) (hj:j<fs.length)
    (hc:¬dp (dn bl (bA d s (fs.getD j 0))) (tt.map (dn bl))<0):(tt,mx++[dp (dn bl (bA d s (fs.getD j 0))) (tt.map (dn bl))])=(fs.take (j+1)).foldl (eC d bl s) (hs,nx):=by
  rw [←iq hj,←hF]
  have h:dn bl (bA d s (fs.getD j 0))∈tt.map (dn bl):=Classical.byContradiction fun h=>hc (n7.2 h)
  unfold eC dp;rw [if_pos h,if_pos h]
theorem Ku {d:ar} {bl fs hs nx tt mx:List Int} {s:Int} {j:Nat} (hF:(tt,mx)=(fs.take j).foldl (eC d bl s) (hs,nx)) (hj:j<fs.length)
    (hc:dp (dn bl (bA d s (fs.getD j 0))) (tt.map (dn bl))<0):(tt++[bA d s (fs.getD j 0)],mx++[((tt.length:Nat):Int)])=(fs.take (j+1)).foldl (eC d bl s) (hs,nx):=by
  rw [←iq hj,←hF]
  unfold eC;rw [if_neg (n7.1 hc)]
theorem nH.at' {d:ar} (hr:aN d=true) {bl fs hs nx tt mx:List Int} (hb:wm d bl) (yB:∀j,j<fs.length→0≤fs.getD j 0∧fs.getD j 0<259) {k j:Nat} (h:nH d fs (hs,nx) k 0) (hk:k<hs.length) (hj:j≤fs.length)
    (hF:(tt,mx)=(fs.take j).foldl (eC d bl (hs.getD k 0)) (hs,nx)):nH d fs (tt,mx) k j∧∃r,tt=hs++r:=by
  rw [hF]
  refine ⟨nH.upto hr hb yB h hk j hj,?_⟩
  obtain ⟨r,e⟩:=kQ d bl (hs.getD k 0) (fs.take j) (hs,nx)
  rw [←hF] at e
  exact ⟨r,e⟩
def Du (d:ar) (s:Int):Bool:=d.acc.getD s.toNat false
theorem GD {d:ar} {hs tt r:List Int} {k:Nat} (hk:k<hs.length) (e:tt=hs++r):(hs.take k).map (Du d)++[d.acc.getD (hs.getD k 0).toNat false]=(tt.take (k+1)).map (Du d):=by
  rw [e,List.take_append_of_le_length oz,cr 0 hk,List.map_append];rfl
theorem sC {d:ar} {bl fs hs nx tt mx:List Int} {k j:Nat} (hR:cE d bl fs 4097 0 ([d.start],[])=cE d bl fs (4097-k) k (hs,nx)) (hk:k<hs.length) (h4:k<4097) (hj:j=fs.length)
    (hF:(tt,mx)=(fs.take j).foldl (eC d bl (hs.getD k 0)) (hs,nx)):cE d bl fs 4097 0 ([d.start],[])=cE d bl fs (4097-(k+1)) (k+1) (tt,mx):=by
  subst hj
  rw [List.take_length] at hF
  rw [hR,HZ h4 hk,hF]
theorem sD {d:ar} {bl fs hs nx:List Int} {k:Nat} (hR:cE d bl fs 4097 0 ([d.start],[])=cE d bl fs (4097-k) k (hs,nx)) (hk:¬k<hs.length):(cE d bl fs 4097 0 ([d.start],[])).1=hs∧(cE d bl fs 4097 0 ([d.start],[])).2=nx:=by
  rw [hR,E5 hk];exact ⟨rfl,rfl⟩
def JH (d:ar) (bl:List Int) (k sym j:Nat) (b:Bool):Prop:=b=true↔∀i:Nat,i<j→To d d.start (i:Int)→dn bl (bA d (i:Int) (k:Int))=dn bl (bA d (i:Int) (sym:Int))
theorem JH.start (d:ar) (bl:List Int) (k sym:Nat):JH d bl k sym 0 true:=⟨fun _ i hi=>by omega,fun _=>rfl⟩
theorem JH.skip {d:ar} {bl:List Int} {k sym j:Nat} (h:JH d bl k sym j true) (hn:¬To d d.start (j:Int)):JH d bl k sym (j+1) true:=
  ⟨fun _ i hi ht=>by
    by_cases e:i=j
    · subst e;exact absurd ht hn
    · exact h.1 rfl i oz ht,fun _=>rfl⟩
theorem JH.step {d:ar} {bl:List Int} {k sym j:Nat} {p:Prop} [Decidable p] (h:JH d bl k sym j true) (hy:To d d.start (j:Int)) (hp:p↔dn bl (bA d (j:Int) (k:Int))=dn bl (bA d (j:Int) (sym:Int))):JH d bl k sym (j+1) (decide p):=by
  constructor
  · intro e i hi ht
    by_cases e2:i=j
    · subst e2;exact hp.1 (of_decide_eq_true e)
    · exact h.1 rfl i oz ht
  · intro h9
    exact decide_eq_true (hp.2 (h9 j oz hy))
theorem JH.fin {d:ar} (hr:aN d=true) {bl:List Int} (hb:wm d bl) {k sym j n:Nat} {b:Bool} (h:JH d bl k sym j b) (hk:k<259) (hs:sym<259) (hn:n=d.acc.length) (hj:¬j<n∨b=false) (Ab:j≤n):b=true↔Am d k sym:=by
  subst hn
  have key:∀i:Nat,i<d.acc.length→(dn bl (bA d (i:Int) (k:Int))=dn bl (bA d (i:Int) (sym:Int))↔pQ d (bA d (i:Int) (k:Int)) d (bA d (i:Int) (sym:Int))):=fun i hi=>
    hb _ _ (k4 hr oz oz oz) (k4 hr oz oz oz)
  rcases hj with hj|hj
  · have:j=d.acc.length:=by omega
    subst this
    exact ⟨fun e i hi ht=>(key i hi).1 (h.1 e i hi ht),fun e=>h.2 fun i hi ht=>(key i hi).2 (e i hi ht)⟩
  · subst hj
    refine ⟨fun e=>(by cases e),fun e=>h.2 fun i hi ht=>(key i oz).2 (e i oz ht)⟩
def N7 (R:Nat→Nat→Prop) (q:List Int) (s:Nat) (aa y:Int):Prop:=(y<aa∧0≤aa∧aa≤(s:Int))∧R aa.toNat s∧∀k:Nat,y<(k:Int)→(k:Int)<aa→q.getD k 0=(k:Int)→¬R k s
theorem N7.start {R:Nat→Nat→Prop} (hr:∀i,R i i) (q:List Int) (s:Nat):N7 R q s (s:Int) ((s:Int)-1):=⟨by omega,by rw [Int.toNat_natCast];exact hr s,fun k h1 h2=>by omega⟩
theorem N7.pass {R:Nat→Nat→Prop} {q:List Int} {s:Nat} {aa y:Int} (h:N7 R q s aa y) (hy:0≤y) (hq:q.getD y.toNat 0≠y∨¬R y.toNat s):N7 R q s aa (y-1):=by
  refine ⟨by have:=h.1;omega,h.2.1,fun k h1 h2 h3=>?_⟩
  by_cases e:(k:Int)=y
  · have:k=y.toNat:=by omega
    subst this
    rcases hq with hq|hq
    · rw [Int.toNat_of_nonneg hy] at h3;exact absurd h3 hq
    · exact hq
  · exact h.2.2 k oz h2 h3
theorem N7.hit {R:Nat→Nat→Prop} {q:List Int} {s:Nat} {aa y:Int} (h:N7 R q s aa y) (hy:0≤y) (hR:R y.toNat s):N7 R q s y (y-1):=⟨by have:=h.1;omega,hR,fun k h1 h2=>by omega⟩
theorem N7.fin {R:Nat→Nat→Prop} {q:List Int} {s n:Nat} {aa y:Int} (h:N7 R q s aa y) (e:EqR R n) (hs:s<n) (hq:tD R q s) (hy:y<0) (Z9: -1≤y):tD R (q++[aa]) (s+1):=by
  refine hq.snoc h.1.2.1 h.1.2.2 h.2.1 fun k hk hR=>?_
  have h1:=hq.val k (by have:=h.1;omega)
  have h2:=hq.val (q.getD k 0).toNat (by have:=h.1;omega)
  have h3:R (q.getD k 0).toNat s:=e.trans _ _ _ (by have:=h.1;omega) (by have:=h.1;omega) hs h1.2.2.1 hR
  refine h.2.2 (q.getD k 0).toNat oz oz ?_ h3
  have e9:EqR R s:=⟨fun i hi=>e.refl i oz,fun i k hi hk=>e.symm i k oz oz,fun i j k hi hj hk=>e.trans i j k oz oz oz⟩
  have h4:=(hq.first e9) k (by rw [hq.len];have:=h.1;omega)
  rw [h4.2.2,Int.toNat_of_nonneg h4.1]
theorem z6 {d:ar} {q hs nx:List Int} (hq:tD (Am d) q 259) (h1:(cE d (uM d) (ax (bp q) ((dd q).length:Int)) 4097 0 ([d.start],[])).1=hs) (h2:(cE d (uM d) (ax (bp q) ((dd q).length:Int)) 4097 0 ([d.start],[])).2=nx):
    (cJ d).cls=bp q∧(cJ d).width=((dd q).length:Int)∧(cJ d).start=0∧(cJ d).next=nx∧(cJ d).acc=hs.map (Du d):=by
  have e:=hq.uniq (jJ d)
  subst e
  exact ⟨rfl,rfl,rfl,h2,by subst h1;rfl⟩
theorem FD {d:ar} {q:List Int} (hq:tD (Am d) q 259):(∀j,j<(ax (bp q) ((dd q).length:Int)).length→0≤(ax (bp q) ((dd q).length:Int)).getD j 0∧(ax (bp q) ((dd q).length:Int)).getD j 0<259)∧(ax (bp q) ((dd q).length:Int)).length≤259:=by
  have e:=hq.uniq (jJ d)
  subst e
  refine ⟨Bn d,?_⟩
  have h1:=nY d
  have h2:=wA d
  unfold eY at h1
  omega
section
variable {β:Type} {f:β→Chunk} {l m:List β} {w w':World} {L:List Chunk} {G:List (List Chunk)}
theorem My (h:Hp w [aC f l,aC f m]):aE w [aC f l,aC f m] w [aC f (l++m)]:=by
  have h1:Hp w (l.map f++[aC f m]):=gM.1 h
  have h2:Hp w (aC f m::l.map f):=h1.perm (List.perm_append_singleton _ _)
  have h3:Hp w (m.map f++l.map f):=gM.1 h2
  have h4:Hp w (l.map f++m.map f):=h3.perm List.perm_append_comm
  refine ⟨gM.2 (by rw [List.append_nil,List.map_append];exact h4),di.refl _ _,fun g hg=> .inl ?_⟩
  have e1:dI [aC f (l++m)]=dI ((l++m).map f++[]):=fF _ _
  rw [e1,List.append_nil,List.map_append,eO] at hg
  have e2:dI [aC f l,aC f m]=dI (l.map f++[aC f m]):=fF _ _
  have e3:dI [aC f m]=dI (m.map f++[]):=fF _ _
  rw [e2,eO,e3,List.append_nil]
  exact hg
theorem aA.Qn (h:aA w L w' G) (i j:Nat) (cN:Nat.beq i j=false) (hi:G[i]?=some [aC f l]) (hj:G[j]?=some [aC f m]):aA w L w' ((G.set i [aC f (l++m)]).set j []++[[]]):=
  h.gh (A':=[aC f (l++m)]) (B':=[]) (C:=[]) i j cN hi hj (My (h.Bl i j cN hi hj))
end
def nu (e7 e2:TypeId) (a:aO) (n c:Nat) (F:List (LR (LR Int))):Chunk:=many [aj aW (.slice a n c) e7 F,aC (bh aW e2).row F,aC (bh (aw .i64) 3).row (F.flatMap LR.xs)]
section
variable {w w':World} {L:List Chunk} {G:List (List Chunk)} {e7 e2:TypeId} {a:aO} {n c:Nat} {F:List (LR (LR Int))}
theorem aA.PE (h:aA w L w' G) (i:Nat) (hi:G[i]?=some [aj aW (.slice a n c) e7 F,aC (bh aW e2).row F,aC (bh (aw .i64) 3).row (F.flatMap LR.xs)]):aA w L w' (G.set i [nu e7 e2 a n c F]):=by
  refine h.on i hi ⟨gM.2 ?_,di.refl _ _,fun g hg=> .inl ?_⟩
  · have:=h.cB i hi
    simpa using this
  · have e1:=fF [aj aW (.slice a n c) e7 F,aC (bh aW e2).row F,aC (bh (aw .i64) 3).row (F.flatMap LR.xs)] []
    unfold nu at hg
    rw [e1] at hg;simpa using hg
theorem pC (h:Hp w [nu e7 e2 a n c F]):Hp w [aj aW (.slice a n c) e7 F,aC (bh aW e2).row F,aC (bh (aw .i64) 3).row (F.flatMap LR.xs)]:=by
  have:=(gM (L:=[aj aW (.slice a n c) e7 F,aC (bh aW e2).row F,aC (bh (aw .i64) 3).row (F.flatMap LR.xs)]) (M:=[])).1 h
  simpa using this
theorem yH (h:Hp w [nu e7 e2 a n c F]):bH aW w (.slice a n c) F:=cQ (pC h) (List.mem_of_getElem? (i:=0) rfl)
theorem FO (h:Hp w [nu e7 e2 a n c F]):(bh aW e2).Rd w F:=
  ga.own ⟨fun c' hc=>(pC h).holds c' (by simp only [List.mem_singleton] at hc;subst hc;simp),(pU (L:=[aj aW (.slice a n c) e7 F,aC (bh aW e2).row F,aC (bh (aw .i64) 3).row (F.flatMap LR.xs)]) (by simp)).nodup (pC h).nodup⟩
theorem lK (h:Hp w [nu e7 e2 a n c F]) {p:LR (LR Int)} (hp:p∈F):(bh (aw .i64) 3).Rd w p.xs:=fun q hq=>
  (ga.own (I:=bh (aw .i64) 3) (ps:=F.flatMap LR.xs) ⟨fun c' hc=>(pC h).holds c' (by simp only [List.mem_singleton] at hc;subst hc;simp),(pU (L:=[aj aW (.slice a n c) e7 F,aC (bh aW e2).row F,aC (bh (aw .i64) 3).row (F.flatMap LR.xs)]) (by simp)).nodup (pC h).nodup⟩) q (List.mem_flatMap.2 ⟨p,hp,hq⟩)
end
section
variable {P:Program} {κ ν:Type} [DecidableEq κ] {ek:κ→Value} {fW:ν→Value} {Γ:Env} {w:World} {ty:TypeId} {K:Value→World→Prop}
theorem pG {t k e:TypeId} {x ix:Operand} {g:Nat} {m:List (κ×ν)} (a:κ) (d:ν) {s b:Nat} (y:ν) (he:(getM m a).getD d=y) (ks:uS P k ek) (ht:P.underlying t=some (.map k e)) (hz:cp P e=some (s,b,some (fW d))) (hx:ev Γ x=some (.map (some g))) (hi:ev Γ ix=some (ek a))
    (hm:pP w ek fW g m) (kk:K (fW y) w):az P Γ w (.lookup t x ix false) ty K:=K8 a d ks ht hz hx hi hm (he▸kk)
end
def kj:Ty (Int×Int):=⟨2,fun x=>[.int .i64 x.1,.int .i64 x.2],fun _=>rfl,fun x u h=>by
  simp only [List.mem_cons,List.not_mem_nil,or_false] at h;rcases h with rfl|rfl<;>rfl,by omega⟩
instance:Df kj (0,0):=⟨trivial⟩
def aeA (P:Program) (f:FuncId) (fc:List Value) (p:Int→Bool) (S:List Nat) (w:World):Prop:=
  ∀w':World,di S w w'→∀x:Int,Calls P f (#[.int .i64 x]++fc.toArray) w' (bj fun v lZ=>v= .bool (p x)∧aE w' [] lZ [])
theorem cM {α:Type} [DecidableEq α]:∀ {l m:List α},l.Nodup→(∀x,x∈l→x∈m)→l.length≤m.length
  | [],m,_,_=>by simp
  | x::l,m,hn,hs=>by
    have NX:=List.nodup_cons.1 hn
    have hx:=hs x List.mem_cons_self
    have h1:=cM (l:=l) (m:=m.erase x) NX.2 (fun y hy=>by
      have c0:y≠x:=fun e=>NX.1 (e▸hy)
      exact (List.mem_erase_of_ne c0).2 (hs y (List.mem_cons_of_mem _ hy)))
    rw [List.length_erase_of_mem hx] at h1
    have:=List.length_pos_of_mem hx
    simp only [List.length_cons];omega
theorem Mu {α:Type} [DecidableEq α] {l m:List α} (hl:l.Nodup) (hs:∀x,x∈l→x∈m) (hlen:m.length≤l.length):∀y,y∈m→y∈l:=fun y hy=>by
  refine Classical.byContradiction fun hn=>?_
  have:=cM (l:=y::l) (m:=m) (List.nodup_cons.2 ⟨hn,hl⟩) (fun x hx=>by
    rcases List.mem_cons.1 hx with rfl|hx
    · exact hy
    · exact hs x hx)
  simp only [List.length_cons] at this
  omega
theorem Ib {α:Type} [DecidableEq α] {l m:List α} (hm:m.Nodup) (hlen:l.length<m.length):∃y,y∈m∧y∉l:=by
  refine Classical.byContradiction fun hn=>?_
  have:=cM (l:=m) (m:=l) hm (fun x hx=>Classical.byContradiction fun h9=>hn ⟨x,hx,h9⟩)
  omega
def fU (ms:List (LR Int)) (b:Nat):List Int:=(ms.getD b ai).xs
def bk (bl:List Int) (i:Nat):Nat:=(bl.getD i 0).toNat
def dl (d:ar) (k i:Nat):Nat:=(d.next.getD ((i:Int)*d.width+(bD d).getD k 0).toNat 0).toNat
theorem me {d:ar} (hr:aN d=true) {k i:Nat} (hk:k<(bD d).length) (hi:i<d.acc.length):dl d k i<d.acc.length∧((dl d k i:Nat):Int)=d.next.getD ((i:Int)*d.width+(bD d).getD k 0).toNat 0:=by
  have h1:=wu hr (au (d:=0) hk)
  have h2:=dS hr (q:=(i:Int)) oz oz h1.1 h1.2
  unfold dl;omega
theorem YP {d:ar} (hr:aN d=true) {c:Int} (hc:0≤c∧c<259):∃k,k<(bD d).length∧∀i,dN d i c=dl d k i:=by
  have h1:=(bo.1 hr).1.1
  have hm:d.cls.getD c.toNat 0∈bD d:=(rX d _).2 (au oz)
  obtain ⟨k,hk,e⟩:=List.mem_iff_getElem.1 hm
  refine ⟨k,hk,fun i=>?_⟩
  have e2:(bD d).getD k 0=d.cls.getD c.toNat 0:=by rw [←e];simp [List.getD_eq_getElem?_getD,List.getElem?_eq_getElem hk]
  unfold dN bA dl;rw [e2]
theorem YQ {d:ar} (hr:aN d=true) {k:Nat} (hk:k<(bD d).length):∃c:Int,(0≤c∧c<259)∧∀i,dN d i c=dl d k i:=by
  have h1:=(bo.1 hr).1.1
  have hm:(bD d).getD k 0∈d.cls:=(rX d _).1 (au hk)
  obtain ⟨j,hj,e⟩:=List.mem_iff_getElem.1 hm
  refine ⟨(j:Int),by omega,fun i=>?_⟩
  have e2:d.cls.getD j 0=(bD d).getD k 0:=by rw [←e];simp [List.getD_eq_getElem?_getD,List.getElem?_eq_getElem hj]
  unfold dN bA dl;rw [Int.toNat_natCast,e2]
theorem YR {d:ar} (hr:aN d=true) {k p q:Nat} (hk:k<(bD d).length) (h:As d (dl d k p) (dl d k q)):As d p q:=by
  obtain ⟨c,hc,e⟩:=YQ hr hk
  obtain ⟨t,ht⟩:=h
  exact ⟨t+1,.inr ⟨c,hc,by rw [e,e];exact ht⟩⟩
structure oL (n:Nat) (bl:List Int) (ms:List (LR Int)):Prop where
  len:bl.length=n
  k8:∀i,i<n→0≤bl.getD i 0∧bl.getD i 0<(ms.length:Int)
  mem:∀b,b<ms.length→∀x:Int,x∈fU ms b↔∃i:Nat,i<n∧x=(i:Int)∧bl.getD i 0=(b:Int)
  nd:∀b,b<ms.length→(fU ms b).Nodup
  pos:∀b,b<ms.length→fU ms b≠[]
theorem oL.bound {n:Nat} {bl:List Int} {ms:List (LR Int)} (h:oL n bl ms):ms.length≤n:=by
  have key:=cM (l:=(List.range ms.length).map fun b=>((fU ms b).headD 0).toNat) (m:=List.range n) ?_ ?_
  · simpa using key
  · rw [List.nodup_iff_pairwise_ne,List.pairwise_map]
    refine (List.nodup_iff_pairwise_ne.1 List.nodup_range).imp_of_mem ?_
    intro a b ha hb c0 e
    have pick:∀c,c<ms.length→∃i:Nat,i<n∧((fU ms c).headD 0).toNat=i∧bl.getD i 0=(c:Int):=fun c hc=>by
      have hp:=h.pos c hc
      cases hm:fU ms c with
      | nil=>exact absurd hm hp
      | cons y l=>
        obtain ⟨i,hi,e1,e2⟩:=(h.mem c hc y).1 (by rw [hm];exact List.mem_cons_self)
        exact ⟨i,hi,by simp only [List.headD_cons];omega,e2⟩
    obtain ⟨i,hi,e1,e2⟩:=pick a (List.mem_range.1 ha)
    obtain ⟨j,hj,e3,e4⟩:=pick b (List.mem_range.1 hb)
    have:i=j:=by rw [←e1,←e3];exact e
    subst this
    rw [e2] at e4
    exact c0 oz
  · intro x hx
    obtain ⟨b,hb,rfl⟩:=List.mem_map.1 hx
    have hb:=List.mem_range.1 hb
    have hp:=h.pos b hb
    cases hm:fU ms b with
    | nil=>exact absurd hm hp
    | cons y l=>
      obtain ⟨i,hi,e1,e2⟩:=(h.mem b hb y).1 (by rw [hm];exact List.mem_cons_self)
      simp only [List.headD_cons,List.mem_range];omega
theorem oL.vX {n:Nat} {bl:List Int} {ms:List (LR Int)} (h:oL n bl ms) {b:Nat} (hb:b<ms.length):(fU ms b).length≤n:=by
  have key:=cM (l:=fU ms b) (m:=(List.range n).map fun i:Nat=>(i:Int)) (h.nd b hb) (fun x hx=>by
    obtain ⟨i,hi,e,_⟩:=(h.mem b hb x).1 hx
    exact List.mem_map.2 ⟨i,List.mem_range.2 hi,e.symm⟩)
  simpa using key
structure WA (K nb:Nat) (td:List (Int×Int)) (wt:List (LR Bool)):Prop where
  len:wt.length=nb
  row:∀b,b<nb→(wt.getD b ai).xs.length=K
  todo:∀b c,b<nb→c<K→bx wt b c=true→(((b:Nat):Int),((c:Nat):Int))∈td
  bd:∀t:Int×Int,t∈td→(0≤t.1∧t.1<(nb:Int))∧(0≤t.2∧t.2<(K:Int))
def aev (d:ar) (bl:List Int) (wt:List (LR Bool)) (E:Nat→Nat→Nat→Prop):Prop:=
  ∀k p q,k<(bD d).length→p<d.acc.length→q<d.acc.length→bl.getD p 0=bl.getD q 0→bl.getD (dl d k p) 0≠bl.getD (dl d k q) 0→bx wt (bk bl (dl d k p)) k=true∨bx wt (bk bl (dl d k q)) k=true∨E k p q
def ZR (d:ar) (bl:List Int):Prop:=∀p q,p<d.acc.length→q<d.acc.length→bl.getD p 0≠bl.getD q 0→As d p q
def aeD (d:ar) (bl:List Int):Prop:=∀p q,p<d.acc.length→q<d.acc.length→bl.getD p 0=bl.getD q 0→d.acc.getD p false=d.acc.getD q false
structure lR (d:ar) (bl:List Int) (ms:List (LR Int)) (td:List (Int×Int)) (wt:List (LR Bool)) (E:Nat→Nat→Nat→Prop):Prop where
  part:oL d.acc.length bl ms
  wait:WA (bD d).length ms.length td wt
  Tj:aev d bl wt E
  snd:ZR d bl
  acc:aeD d bl
structure tB (wt:List (LR Bool)) (b c:Nat) (v:Bool) (qv:List (LR Bool)):Prop where
  len:qv.length=wt.length
  row:∀i,(qv.getD i ai).xs.length=(wt.getD i ai).xs.length
  val:∀i j,bx qv i j=if i=b∧j=c then v else bx wt i j
theorem tB.mk' {X:List (LR Bool)} {i k:Nat} {b:Bool} (MZ:i<X.length) (hk:k<(X.getD i ai).xs.length):tB X i k b (X.set i ⟨(X.getD i ai).a,(X.getD i ai).n,(X.getD i ai).c,(X.getD i ai).xs.set k b⟩):=by
  have hg:∀r,(X.set i ⟨(X.getD i ai).a,(X.getD i ai).n,(X.getD i ai).c,(X.getD i ai).xs.set k b⟩).getD r ai=if i=r then ⟨(X.getD i ai).a,(X.getD i ai).n,(X.getD i ai).c,(X.getD i ai).xs.set k b⟩ else X.getD r ai:=fun r=>by
    simp only [List.getD_eq_getElem?_getD,List.getElem?_set]
    split
    · rename_i e;subst e;simp [MZ]
    · rfl
  refine ⟨by simp,fun r=>?_,fun r c=>?_⟩
  · rw [hg];split
    · rename_i e;subst e;simp
    · rfl
  · unfold bx
    rw [hg]
    by_cases e:i=r
    · subst e
      rw [if_pos rfl]
      show ((X.getD i ai).xs.set k b).getD c false=_
      rw [ll hk]
      by_cases e2:k=c
      · subst e2;simp
      · rw [if_neg e2,if_neg (fun h=>e2 h.2.symm)]
    · rw [if_neg e,if_neg (fun h=>e h.1.symm)]
structure Vo (b:Nat) (out:List Int) (K:Nat) (bl:List Int) (ms:List (LR Int)) (td:List (Int×Int)) (wt:List (LR Bool)) (qt:List Int) (Cn:List (LR Int)) (SC:List (Int×Int)) (qv:List (LR Bool)):Prop where
  ml:Cn.length=ms.length+1
  m1:fU Cn b=(fU ms b).filter (fun x=> !decide (x∈out))
  m2:fU Cn ms.length=out
  m3:∀i,i<ms.length→i≠b→Cn.getD i ai=ms.getD i ai
  bll:qt.length=bl.length
  bv:∀i,i<bl.length→qt.getD i 0=if (i:Int)∈out then (ms.length:Int) else bl.getD i 0
  wl:qv.length=wt.length+1
  wr:∀i,i<wt.length+1→(qv.getD i ai).xs.length=K
  wk:∀i c,i<wt.length→c<K→bx wt i c=true→bx qv i c=true
  wn:∀i c,i<wt.length+1→c<K→bx qv i c=true→(i<wt.length∧bx wt i c=true)∨(((i:Nat):Int),((c:Nat):Int))∈SC
  ws:∀c,c<K→(bx wt b c=true→bx qv wt.length c=true)∧(bx qv b c=true∨bx qv wt.length c=true)
  tl:SC.length=td.length+K
  tk:∀t,t∈td→t∈SC
  tb:∀t:Int×Int,t∈SC→t∈td∨((t.1=(b:Int)∨t.1=(wt.length:Int))∧(0≤t.2∧t.2<(K:Int)))
theorem lR.split {d:ar} {bl qt:List Int} {ms Cn:List (LR Int)} {td SC:List (Int×Int)} {wt qv:List (LR Bool)} {E:Nat→Nat→Nat→Prop} {b:Nat} {out:List Int}
    (hr:aN d=true) (h:lR d bl ms td wt E) (s:Vo b out (bD d).length bl ms td wt qt Cn SC qv) (hb:b<ms.length) (MP:∀x,x∈out→x∈fU ms b) (rQ:out.Nodup) (c0:out≠[]) (ack:∃y,y∈fU ms b∧y∉out)
    (acG:∀p q:Nat,p<d.acc.length→q<d.acc.length→(p:Int)∈out→(q:Int)∈fU ms b→(q:Int)∉out→As d p q):lR d qt Cn SC qv E:=by
  have GW:=h.part.len
  have hwl:=h.wait.len
  have Qt:∀i:Nat,i<d.acc.length→(i:Int)∈out→bl.getD i 0=(b:Int):=fun i hi ho=>by
    obtain ⟨j,hj,e1,e2⟩:=(h.part.mem b hb _).1 (MP _ ho)
    have:i=j:=by omega
    subst this;exact e2
  have bv:∀i,i<d.acc.length→qt.getD i 0=if (i:Int)∈out then (ms.length:Int) else bl.getD i 0:=fun i hi=>s.bv i oz
  have up:∀p q,p<d.acc.length→q<d.acc.length→qt.getD p 0=qt.getD q 0→bl.getD p 0=bl.getD q 0:=fun p q hp hq e=>by
    rw [bv p hp,bv q hq] at e
    have r1:=h.part.k8 p hp
    have r2:=h.part.k8 q hq
    by_cases o1:(p:Int)∈out
    · by_cases o2:(q:Int)∈out
      · rw [Qt p hp o1,Qt q hq o2]
      · rw [if_pos o1,if_neg o2] at e;omega
    · by_cases o2:(q:Int)∈out
      · rw [if_neg o1,if_pos o2] at e;omega
      · rw [if_neg o1,if_neg o2] at e;exact e
  refine ⟨⟨by rw [s.bll];exact GW,fun i hi=>?_,fun c hc x=>?_,fun c hc=>?_,fun c hc=>?_⟩,⟨by rw [s.wl,s.ml,hwl],fun c hc=>s.wr c (by rw [s.ml] at hc;omega),fun c k hc hk ht=>?_,fun t ht=>?_⟩,?_,?_,fun p q hp hq e=>h.acc p q hp hq (up p q hp hq e)⟩
  · have r1:=h.part.k8 i hi
    rw [bv i hi,s.ml];split<;>omega
  · rw [s.ml] at hc
    by_cases e1:c=ms.length
    · subst e1
      rw [s.m2]
      constructor
      · intro hx
        obtain ⟨i,hi,e,e2⟩:=(h.part.mem b hb _).1 (MP _ hx)
        exact ⟨i,hi,e,by rw [bv i hi,if_pos (e▸hx)]⟩
      · rintro ⟨i,hi,rfl,e⟩
        rw [bv i hi] at e
        split at e
        · assumption
        · have:=(h.part.k8 i hi).2;omega
    · have GV:c<ms.length:=by omega
      by_cases e2:c=b
      · subst e2
        rw [s.m1,List.mem_filter,h.part.mem c hb]
        constructor
        · rintro ⟨⟨i,hi,rfl,e⟩,ho⟩
          have ho:(i:Int)∉out:=by simpa using ho
          exact ⟨i,hi,rfl,by rw [bv i hi,if_neg ho];exact e⟩
        · rintro ⟨i,hi,rfl,e⟩
          rw [bv i hi] at e
          split at e
          · omega
          · rename_i ho;exact ⟨⟨i,hi,rfl,e⟩,by simpa using ho⟩
      · have e3:fU Cn c=fU ms c:=by unfold fU;rw [s.m3 c GV e2]
        rw [e3,h.part.mem c GV]
        constructor
        · rintro ⟨i,hi,rfl,e⟩
          refine ⟨i,hi,rfl,?_⟩
          rw [bv i hi,if_neg (fun ho=>e2 (by have:=Qt i hi ho;omega))];exact e
        · rintro ⟨i,hi,rfl,e⟩
          refine ⟨i,hi,rfl,?_⟩
          rw [bv i hi] at e
          split at e
          · omega
          · exact e
  · rw [s.ml] at hc
    by_cases e1:c=ms.length
    · subst e1;rw [s.m2];exact rQ
    · by_cases e2:c=b
      · subst e2;rw [s.m1];exact (h.part.nd c hb).sublist List.filter_sublist
      · have e3:fU Cn c=fU ms c:=by unfold fU;rw [s.m3 c oz e2]
        rw [e3];exact h.part.nd c oz
  · rw [s.ml] at hc
    by_cases e1:c=ms.length
    · subst e1;rw [s.m2];exact c0
    · by_cases e2:c=b
      · subst e2;rw [s.m1]
        obtain ⟨y,hy,hn⟩:=ack
        exact List.ne_nil_of_mem (List.mem_filter.2 ⟨hy,by simpa using hn⟩)
      · have e3:fU Cn c=fU ms c:=by unfold fU;rw [s.m3 c oz e2]
        rw [e3];exact h.part.pos c oz
  · rw [s.ml] at hc
    rcases s.wn c k oz hk ht with ⟨h1,h2⟩|h1
    · exact s.tk _ (h.wait.todo c k oz hk h2)
    · exact h1
  · rw [s.ml]
    rcases s.tb t ht with h1|⟨h1,h2⟩
    · have:=h.wait.bd t h1;omega
    · omega
  · intro k p q hk hp hq e yA
    have e0:=up p q hp hq e
    have lp:=(me hr hk hp).1
    have lq:=(me hr hk hq).1
    have key:∀i,i<d.acc.length→bx wt (bk bl i) k=true→bx qv (bk qt i) k=true:=fun i hi hc=>by
      have r1:=h.part.k8 i hi
      by_cases o:(i:Int)∈out
      · have e1:bk qt i=wt.length:=by unfold bk;rw [bv i hi,if_pos o,hwl];simp
        have e2:bk bl i=b:=by unfold bk;rw [Qt i hi o];simp
        rw [e1];rw [e2] at hc
        exact (s.ws k hk).1 hc
      · have e1:bk qt i=bk bl i:=by unfold bk;rw [bv i hi,if_neg o]
        rw [e1]
        exact s.wk _ k (by unfold bk;omega) hk hc
    by_cases e3:bl.getD (dl d k p) 0=bl.getD (dl d k q) 0
    · rw [bv _ lp,bv _ lq] at yA
      have w:=(s.ws k hk).2
      have at_:∀i,i<d.acc.length→bk qt i=if (i:Int)∈out then wt.length else bk bl i:=fun i hi=>by
        unfold bk;rw [bv i hi];split
        · rw [hwl];simp
        · rfl
      by_cases o1:((dl d k p:Nat):Int)∈out
      · by_cases o2:((dl d k q:Nat):Int)∈out
        · rw [if_pos o1,if_pos o2] at yA;exact absurd rfl yA
        · have e4:bk bl (dl d k q)=b:=by unfold bk;rw [←e3,Qt _ lp o1];simp
          rw [at_ _ lp,if_pos o1,at_ _ lq,if_neg o2,e4]
          rcases w with w|w
          · exact .inr (.inl w)
          · exact .inl w
      · by_cases o2:((dl d k q:Nat):Int)∈out
        · have e4:bk bl (dl d k p)=b:=by unfold bk;rw [e3,Qt _ lq o2];simp
          rw [at_ _ lp,if_neg o1,at_ _ lq,if_pos o2,e4]
          rcases w with w|w
          · exact .inl w
          · exact .inr (.inl w)
        · rw [if_neg o1,if_neg o2] at yA;exact absurd e3 yA
    · rcases h.Tj k p q hk hp hq e0 e3 with h1|h1|h1
      · exact .inl (key _ lp h1)
      · exact .inr (.inl (key _ lq h1))
      · exact .inr (.inr h1)
  · intro p q hp hq yA
    rw [bv p hp,bv q hq] at yA
    by_cases e3:bl.getD p 0=bl.getD q 0
    · by_cases o1:(p:Int)∈out
      · by_cases o2:(q:Int)∈out
        · rw [if_pos o1,if_pos o2] at yA;exact absurd rfl yA
        · exact acG p q hp hq o1 ((h.part.mem b hb _).2 ⟨q,hq,rfl,by rw [←e3];exact Qt p hp o1⟩) o2
      · by_cases o2:(q:Int)∈out
        · exact yQ (acG q p hq hp o2 ((h.part.mem b hb _).2 ⟨p,hp,rfl,by rw [e3];exact Qt q hq o2⟩) o1)
        · rw [if_neg o1,if_neg o2] at yA;exact absurd e3 yA
    · exact h.snd p q hp hq e3
structure aeC (l:List Int) (K:Nat) (la:aO) (ln lc:Nat) (bl:List Int) (ms:List (LR Int)) (wt:List (LR Bool)) (qt:List Int) (qv:List (LR Bool)):Prop where
  bll:qt.length=bl.length
  bv:∀i,i<bl.length→qt.getD i 0=if (i:Int)∈l then (ms.length:Int) else bl.getD i 0
  wl:qv.length=wt.length+1
  wo:∀i,i<wt.length→qv.getD i ai=wt.getD i ai
  wn:(qv.getD wt.length ai).xs=List.replicate K false
theorem n6 {α:Type} {X:List (LR α)} {p:LR α} :(X++[p]).getD X.length ai=p:=by simp [List.getD_eq_getElem?_getD]
theorem np {α:Type} {X Y:List (LR α)} {i:Nat} (h:i<X.length):(X++Y).getD i ai=X.getD i ai:=by simp only [List.getD_eq_getElem?_getD,List.getElem?_append_left h]
structure Vz (l:List Int) (v:Int) (bl qt:List Int) (k:Nat):Prop where
  len:qt.length=bl.length
  val:∀i,i<bl.length→qt.getD i 0=if (i:Int)∈l.take k then v else bl.getD i 0
theorem Vz.start (l:List Int) (v:Int) (bl:List Int):Vz l v bl bl 0:=⟨rfl,fun i hi=>by simp⟩
theorem Vz.step {l:List Int} {v:Int} {bl qt:List Int} {k:Nat} (h:Vz l v bl qt k) (hk:k<l.length) (hx:0≤l.getD k 0∧l.getD k 0<(bl.length:Int)):Vz l v bl (qt.set (l.getD k 0).toNat v) (k+1):=by
  refine ⟨by simp [h.len],fun i hi=>?_⟩
  rw [nj (by rw [h.len];omega),cr 0 hk,h.val i hi]
  by_cases e:(l.getD k 0).toNat=i
  · rw [if_pos e,if_pos]
    simp only [List.mem_append,List.mem_singleton]
    exact .inr oz
  · rw [if_neg e]
    by_cases e2:(i:Int)∈l.take k
    · rw [if_pos e2,if_pos (List.mem_append_left _ e2)]
    · rw [if_neg e2,if_neg]
      simp only [List.mem_append,List.mem_singleton]
      rintro (h9|h9)
      · exact e2 h9
      · exact e oz
theorem Vz.fin {l:List Int} {v:Int} {bl qt:List Int} {k:Nat} (h:Vz l v bl qt k) (hk:¬k<l.length):∀i,i<bl.length→qt.getD i 0=if (i:Int)∈l then v else bl.getD i 0:=fun i hi=>by
  have:=h.val i hi
  rwa [List.take_of_length_le oz] at this
structure SU (b K:Nat) (oX:List (LR Bool)) (tG:List (Int×Int)) (wt:List (LR Bool)) (td:List (Int×Int)) (c:Nat):Prop where
  wl:wt.length=oX.length+1
  wr:∀i,i<oX.length+1→(wt.getD i ai).xs.length=K
  wk:∀i k,i<oX.length→k<K→bx oX i k=true→bx wt i k=true
  wn:∀i k,i<oX.length+1→k<K→bx wt i k=true→(i<oX.length∧bx oX i k=true)∨(((i:Nat):Int),((k:Nat):Int))∈td
  ws:∀k,k<c→(bx oX b k=true→bx wt oX.length k=true)∧(bx wt b k=true∨bx wt oX.length k=true)
  un:∀k,c≤k→k<K→bx wt b k=bx oX b k
  tl:td.length=tG.length+c
  tk:∀t,t∈tG→t∈td
  tb:∀t:Int×Int,t∈td→t∈tG∨((t.1=(b:Int)∨t.1=(oX.length:Int))∧(0≤t.2∧t.2<(K:Int)))
theorem y3 {X:List (LR Bool)} {i K k:Nat} (h:(X.getD i ai).xs=List.replicate K false):bx X i k=false:=by
  unfold bx;rw [h]
  simp only [List.getD_eq_getElem?_getD,List.getElem?_replicate]
  split<;>rfl
theorem SU.start {b K:Nat} {oX wt:List (LR Bool)} {tG:List (Int×Int)} (hw:∀i,i<oX.length→(oX.getD i ai).xs.length=K) (hb:b<oX.length) (h1:wt.length=oX.length+1) (h2:∀i,i<oX.length→wt.getD i ai=oX.getD i ai) (h3:(wt.getD oX.length ai).xs=List.replicate K false):
    SU b K oX tG wt tG 0:=by
  have hc:∀i k,i<oX.length→bx wt i k=bx oX i k:=fun i k hi=>by unfold bx;rw [h2 i hi]
  refine ⟨h1,fun i hi=>?_,fun i k hi hk h=>by rw [hc i k hi];exact h,fun i k hi hk h=>?_,fun k hk=>by omega,fun k _ _=>hc b k hb,rfl,fun t h=>h,fun t h=> .inl h⟩
  · by_cases e:i=oX.length
    · subst e;rw [h3];simp
    · rw [h2 i oz];exact hw i oz
  · by_cases e:i=oX.length
    · subst e;rw [y3 h3] at h;cases h
    · exact .inl ⟨by omega,by rw [←hc i k oz];exact h⟩
theorem SU.put {b K x:Nat} {oX wt qv:List (LR Bool)} {tG td:List (Int×Int)} {c:Nat} (h:SU b K oX tG wt td c) (hb:b<oX.length) (hc:c<K) (hx:x=b∨x=oX.length) (hold:bx oX b c=true→x=oX.length) (s:tB wt x c true qv):
    SU b K oX tG qv (td++[(((x:Nat):Int),((c:Nat):Int))]) (c+1):=by
  have up:∀i k,bx wt i k=true→bx qv i k=true:=fun i k h9=>by rw [s.val];split;rfl;exact h9
  refine ⟨by rw [s.len];exact h.wl,fun i hi=>by rw [s.row];exact h.wr i hi,fun i k hi hk h9=>up i k (h.wk i k hi hk h9),fun i k hi hk h9=>?_,fun k hk=>?_,fun k hk tK=>?_,by simp [h.tl];omega,fun t ht=>List.mem_append_left _ (h.tk t ht),fun t ht=>?_⟩
  · rw [s.val] at h9
    split at h9
    · rename_i e;obtain ⟨rfl,rfl⟩:=e;exact .inr (by simp)
    · rcases h.wn i k hi hk h9 with h8|h8
      · exact .inl h8
      · exact .inr (List.mem_append_left _ h8)
  · by_cases e:k=c
    · subst e
      have e1:bx qv x k=true:=by rw [s.val,if_pos ⟨rfl,rfl⟩]
      refine ⟨fun h9=>by rw [←hold h9];exact e1,?_⟩
      rcases hx with rfl|rfl
      · exact .inl e1
      · exact .inr e1
    · have h9:=h.ws k oz
      refine ⟨fun h8=>up _ _ (h9.1 h8),?_⟩
      rcases h9.2 with h8|h8
      · exact .inl (up _ _ h8)
      · exact .inr (up _ _ h8)
  · rw [s.val,if_neg (fun e=>by omega)];exact h.un k oz tK
  · rcases List.mem_append.1 ht with h9|h9
    · exact h.tb t h9
    · rw [List.mem_singleton.1 h9]
      exact .inr ⟨by simp only;omega,by simp only;omega⟩
theorem SU.fin {b K:Nat} {out:List Int} {bl qt:List Int} {ms Cn:List (LR Int)} {oX wt:List (LR Bool)} {tG td:List (Int×Int)} {c:Nat} (h:SU b K oX tG wt td c) (hc:c=K) (KN:Cn.length=ms.length+1)
    (Ue:fU Cn b=(fU ms b).filter (fun x=> !decide (x∈out))) (zz:fU Cn ms.length=out) (V8:∀i,i<ms.length→i≠b→Cn.getD i ai=ms.getD i ai) (GW:qt.length=bl.length) (hbv:∀i,i<bl.length→qt.getD i 0=if (i:Int)∈out then (ms.length:Int) else bl.getD i 0):
    Vo b out K bl ms tG oX qt Cn td wt:=by
  subst hc
  exact ⟨KN,Ue,zz,V8,GW,hbv,h.wl,h.wr,h.wk,h.wn,fun k hk=>h.ws k hk,h.tl,h.tk,h.tb⟩
def tL (F:List (LR (LR Int))) (c:Nat) (t:Int):List Int:=((F.getD c ai).xs.getD t.toNat ai).xs
structure zi (d:ar) (F:List (LR (LR Int))):Prop where
  len:F.length=(bD d).length
  row:∀k,k<F.length→(F.getD k ai).xs.length=d.acc.length
  mem:∀k,k<F.length→∀t:Nat,t<d.acc.length→∀x:Int,x∈tL F k (t:Int)↔∃i:Nat,i<d.acc.length∧x=(i:Int)∧dl d k i=t
  nd:∀k,k<F.length→∀t:Nat,t<d.acc.length→(tL F k (t:Int)).Nodup
def rV (F:List (LR (LR Int))) (c:Nat) (mT:List Int) (q r:Nat):List Int:=(mT.take q).flatMap (tL F c)++(tL F c (mT.getD q 0)).take r
theorem rV.step {F:List (LR (LR Int))} {c q r:Nat} {mT:List Int} (h:r<(tL F c (mT.getD q 0)).length):rV F c mT q (r+1)=rV F c mT q r++[(tL F c (mT.getD q 0)).getD r 0]:=by
  unfold rV;rw [cr 0 h,List.append_assoc]
theorem rV.next {F:List (LR (LR Int))} {c q r:Nat} {mT:List Int} (hq:q<mT.length) (h:¬r<(tL F c (mT.getD q 0)).length):rV F c mT (q+1) 0=rV F c mT q r:=by
  unfold rV;rw [cr 0 hq,List.flatMap_append,List.take_of_length_le (l:=tL F c (mT.getD q 0)) oz];simp
theorem rV.zero (F:List (LR (LR Int))) (c:Nat) (mT:List Int):rV F c mT 0 0=[]:=by simp [rV]
theorem rV.all {F:List (LR (LR Int))} {c q:Nat} {mT:List Int} (hq:¬q<mT.length):rV F c mT q 0=mT.flatMap (tL F c):=by
  unfold rV;rw [List.take_of_length_le oz];simp
theorem TE {d:ar} {F:List (LR (LR Int))} {bl:List Int} {ms:List (LR Int)} (hF:zi d F) (hp:oL d.acc.length bl ms) {c t:Nat} (hc:c<F.length) (ht:t<ms.length) (hr:aN d=true) (x:Int):
    x∈(fU ms t).flatMap (tL F c)↔∃i:Nat,i<d.acc.length∧x=(i:Int)∧bl.getD (dl d c i) 0=(t:Int):=by
  rw [List.mem_flatMap]
  constructor
  · rintro ⟨y,hy,hx⟩
    obtain ⟨j,hj,rfl,e⟩:=(hp.mem t ht y).1 hy
    obtain ⟨i,hi,rfl,e2⟩:=(hF.mem c hc j hj x).1 hx
    exact ⟨i,hi,rfl,by rw [e2];exact e⟩
  · rintro ⟨i,hi,rfl,e⟩
    have hl:=(me hr (k:=c) (by rw [←hF.len];exact hc) hi).1
    exact ⟨((dl d c i:Nat):Int),(hp.mem t ht _).2 ⟨_,hl,rfl,e⟩,(hF.mem c hc _ hl _).2 ⟨i,hi,rfl,rfl⟩⟩
theorem yI {α β:Type} {f:α→List β} :∀ {l:List α},l.Nodup→(∀x,x∈l→(f x).Nodup)→(∀x y z,x∈l→y∈l→z∈f x→z∈f y→x=y)→(l.flatMap f).Nodup
  | [],_,_,_=>by simp
  | a::l,hn,h1,h2=>by
    have NX:=List.nodup_cons.1 hn
    rw [List.flatMap_cons]
    refine List.nodup_append.2 ⟨h1 a List.mem_cons_self,yI NX.2 (fun x hx=>h1 x (List.mem_cons_of_mem _ hx)) (fun x y z hx hy=>h2 x y z (List.mem_cons_of_mem _ hx) (List.mem_cons_of_mem _ hy)),?_⟩
    intro z hz w hw e
    subst e
    obtain ⟨y,hy,XJ⟩:=List.mem_flatMap.1 hw
    have:=h2 a y z List.mem_cons_self (List.mem_cons_of_mem _ hy) hz XJ
    subst this
    exact NX.1 hy
theorem Mh {d:ar} {F:List (LR (LR Int))} {bl:List Int} {ms:List (LR Int)} (hF:zi d F) (hp:oL d.acc.length bl ms) {c t:Nat} (hc:c<F.length) (ht:t<ms.length):((fU ms t).flatMap (tL F c)).Nodup:=by
  refine yI (hp.nd t ht) (fun x hx=>?_) (fun x y z hx hy h1 h2=>?_)
  · obtain ⟨i,hi,rfl,_⟩:=(hp.mem t ht x).1 hx
    exact hF.nd c hc i hi
  · obtain ⟨i,hi,rfl,_⟩:=(hp.mem t ht x).1 hx
    obtain ⟨j,hj,rfl,_⟩:=(hp.mem t ht y).1 hy
    obtain ⟨u,hu,rfl,e1⟩:=(hF.mem c hc i hi z).1 h1
    obtain ⟨v,hv,e3,e2⟩:=(hF.mem c hc j hj _).1 h2
    have:u=v:=by omega
    subst this
    rw [←e1,←e2]
structure NG (nb:Nat) (bl L:List Int) (ps:List (LR Int)) (met:List Int):Prop where
  len:ps.length=nb
  val:∀b,b<nb→(ps.getD b ai).xs=L.filter (fun x=>decide (bl.getD x.toNat 0=((b:Nat):Int)))
  mt:∀y:Int,y∈met↔∃x,x∈L∧bl.getD x.toNat 0=y
  nd:met.Nodup
theorem NG.start (nb:Nat) (bl:List Int):NG nb bl [] (List.replicate nb ai) []:=⟨by simp,fun b hb=>by simp [List.getD_eq_getElem?_getD,hb,ai],fun y=>by simp,by simp⟩
theorem NG.put {nb:Nat} {bl L:List Int} {ps:List (LR Int)} {met:List Int} {x:Int} {a:aO} {n c b:Nat} (h:NG nb bl L ps met) (hb:bl.getD x.toNat 0=((b:Nat):Int)) (v8:b<nb):
    ∀TL,(if (ps.getD b ai).xs=[] then TL=met++[((b:Nat):Int)] else TL=met)→NG nb bl (L++[x]) (ps.set b ⟨a,n,c,(ps.getD b ai).xs++[x]⟩) TL:=by
  intro TL hm
  have ach:(ps.getD b ai).xs=[]↔((b:Nat):Int)∉met:=by
    rw [h.val b v8,List.filter_eq_nil_iff,h.mt]
    constructor
    · rintro h9 ⟨y,hy,e⟩
      exact h9 y hy (by simpa using e)
    · intro h9 y hy e
      exact h9 ⟨y,hy,by simpa using e⟩
  refine ⟨by simp [h.len],fun k hk=>?_,fun y=>?_,?_⟩
  · rw [eN (by rw [h.len];exact v8),List.filter_append]
    by_cases e:b=k
    · subst e
      rw [if_pos rfl]
      show (ps.getD b ai).xs++[x]=_
      rw [h.val b v8]
      have:List.filter (fun x=>decide (bl.getD x.toNat 0=((b:Nat):Int))) [x]=[x]:=by simp only [List.filter_cons,List.filter_nil,hb,decide_true,if_true]
      rw [this]
    · rw [if_neg e,h.val k hk]
      have:List.filter (fun x=>decide (bl.getD x.toNat 0=((k:Nat):Int))) [x]=[]:=by
        simp only [List.filter_cons,List.filter_nil,hb]
        rw [if_neg];simp only [decide_eq_true_eq];omega
      rw [this,List.append_nil]
  · have key:(∃z,z∈L++[x]∧bl.getD z.toNat 0=y)↔(y∈met∨y=((b:Nat):Int)):=by
      rw [h.mt]
      constructor
      · rintro ⟨z,hz,e⟩
        rcases List.mem_append.1 hz with h9|h9
        · exact .inl ⟨z,h9,e⟩
        · rw [List.mem_singleton.1 h9,hb] at e;exact .inr e.symm
      · rintro (⟨z,hz,e⟩|e)
        · exact ⟨z,List.mem_append_left _ hz,e⟩
        · exact ⟨x,by simp,by rw [hb,e]⟩
    rw [key]
    split at hm
    · rw [hm];simp
    · rename_i c0
      rw [hm]
      constructor
      · intro h9;exact .inl h9
      · rintro (h9|rfl)
        · exact h9
        · exact Classical.byContradiction fun h8=>c0 (ach.2 h8)
  · split at hm
    · rename_i he
      rw [hm]
      exact List.nodup_append.2 ⟨h.nd,by simp,fun u hu v hv e=>by
        rw [List.mem_singleton.1 hv] at e;subst e;exact (ach.1 he) hu⟩
    · rw [hm];exact h.nd
def WJ (mm:List (Int×LR Int)) (ps:List (LR Int)):Prop:=∀b:Nat,b<ps.length→(getM mm ((b:Nat):Int)).getD ai=ps.getD b ai
theorem WJ.start (nb:Nat):WJ [] (List.replicate nb ai):=fun b hb=>by
  have:b<nb:=by simpa using hb
  simp [getM,List.getD_eq_getElem?_getD,this]
theorem WJ.put {mm:List (Int×LR Int)} {ps:List (LR Int)} {b:Nat} {v:LR Int} (h:WJ mm ps) (hb:b<ps.length):WJ (jN mm ((b:Nat):Int) v) (ps.set b v):=fun k hk=>by
  rw [s3,eN hb]
  by_cases e:b=k
  · subst e;rw [if_pos rfl,if_pos rfl];rfl
  · rw [if_neg oz,if_neg e];exact h k (by simpa using hk)
structure nE (d:ar) (oJ:List Int) (tJ:List (LR Int)) (tG:List (Int×Int)) (L met:List Int) (E:Nat→Nat→Nat→Prop) (bl:List Int) (ms:List (LR Int)) (td:List (Int×Int)) (wt:List (LR Bool)) (q:Nat):Prop where
  jR:lR d bl ms td wt E
  ref:∀p r,p<d.acc.length→r<d.acc.length→bl.getD p 0=bl.getD r 0→oJ.getD p 0=oJ.getD r 0
  unt:∀j,q≤j→j<met.length→ms.getD (met.getD j 0).toNat ai=tJ.getD (met.getD j 0).toNat ai
  done:∀p r,p<d.acc.length→r<d.acc.length→bl.getD p 0=bl.getD r 0→(∀j,q≤j→j<met.length→met.getD j 0≠oJ.getD p 0)→((p:Int)∈L↔(r:Int)∈L)
  U1:tJ.length≤ms.length∧td.length+tJ.length*(bD d).length=tG.length+ms.length*(bD d).length
theorem nE.start {d:ar} {oJ:List Int} {tJ:List (LR Int)} {tG:List (Int×Int)} {L met:List Int} {wt:List (LR Bool)} {E:Nat→Nat→Nat→Prop} (h:lR d oJ tJ tG wt E) (hm:∀y:Int,y∈met↔∃x,x∈L∧oJ.getD x.toNat 0=y):
    nE d oJ tJ tG L met E oJ tJ tG wt 0:=by
  refine ⟨h,fun p r _ _ e=>e,fun j _ _=>rfl,fun p r hp hr e hn=>?_,by omega⟩
  have key:∀i:Nat,oJ.getD i 0=oJ.getD p 0→(i:Int)∉L:=fun i e2 hi=>by
    have h1:=(hm (oJ.getD p 0)).2 ⟨(i:Int),hi,by rw [Int.toNat_natCast];exact e2⟩
    obtain ⟨j,hj,e3⟩:=List.mem_iff_getElem.1 h1
    exact hn j oz hj (by rw [←e3];simp [List.getD_eq_getElem?_getD,List.getElem?_eq_getElem hj])
  exact ⟨fun h9=>absurd h9 (key p rfl),fun h9=>absurd h9 (key r e.symm)⟩
theorem Cq {d:ar} {oJ bl:List Int} {tJ ms:List (LR Int)} {tG td:List (Int×Int)} {L met:List Int} {wt:List (LR Bool)} {E:Nat→Nat→Nat→Prop} {q b:Nat} {ps:List (LR Int)} (h:nE d oJ tJ tG L met E bl ms td wt q) (h0:oL d.acc.length oJ tJ)
    (hL:∀x,x∈L→∃i:Nat,i<d.acc.length∧x=(i:Int)) (hP:NG tJ.length oJ L ps met) (hq:q<met.length) (hb:met.getD q 0=((b:Nat):Int)) (v8:b<tJ.length):
    (∀x,x∈(ps.getD b ai).xs↔x∈L∧x∈fU ms b)∧(∀i:Nat,i<d.acc.length→(bl.getD i 0=((b:Nat):Int)↔oJ.getD i 0=((b:Nat):Int)))∧fU ms b=fU tJ b∧(ps.getD b ai).xs≠[]:=by
  have hun:=h.unt q (Nat.le_refl _) hq
  rw [hb,Int.toNat_natCast] at hun
  have e1:fU ms b=fU tJ b:=by unfold fU;rw [hun]
  have Wi:b<ms.length:=by have:=h.U1.1;omega
  have GW:∀i:Nat,i<d.acc.length→(bl.getD i 0=((b:Nat):Int)↔oJ.getD i 0=((b:Nat):Int)):=fun i hi=>by
    have m1:=h.jR.part.mem b Wi (i:Int)
    have m2:=h0.mem b v8 (i:Int)
    rw [e1] at m1
    constructor
    · intro e
      obtain ⟨j,hj,e2,e3⟩:=m2.1 (m1.2 ⟨i,hi,rfl,e⟩)
      have:i=j:=by omega
      subst this;exact e3
    · intro e
      obtain ⟨j,hj,e2,e3⟩:=m1.1 (m2.2 ⟨i,hi,rfl,e⟩)
      have:i=j:=by omega
      subst this;exact e3
  refine ⟨fun x=>?_,GW,e1,?_⟩
  · rw [hP.val b v8,List.mem_filter,decide_eq_true_eq]
    constructor
    · rintro ⟨h1,h2⟩
      obtain ⟨i,hi,rfl⟩:=hL x h1
      rw [Int.toNat_natCast] at h2
      exact ⟨h1,by rw [e1];exact (h0.mem b v8 _).2 ⟨i,hi,rfl,h2⟩⟩
    · rintro ⟨h1,h2⟩
      rw [e1] at h2
      obtain ⟨i,hi,rfl,e⟩:=(h0.mem b v8 _).1 h2
      exact ⟨h1,by rw [Int.toNat_natCast];exact e⟩
  · obtain ⟨x,hx,e⟩:=(hP.mt (((b:Nat):Int))).1 (by rw [←hb];exact au hq)
    rw [hP.val b v8]
    exact List.ne_nil_of_mem (List.mem_filter.2 ⟨hx,by rw [decide_eq_true_eq];exact e⟩)
theorem nE.skip {d:ar} {oJ bl:List Int} {tJ ms:List (LR Int)} {tG td:List (Int×Int)} {L met:List Int} {wt:List (LR Bool)} {E:Nat→Nat→Nat→Prop} {q b:Nat} {ps:List (LR Int)} (h:nE d oJ tJ tG L met E bl ms td wt q) (h0:oL d.acc.length oJ tJ)
    (hL:∀x,x∈L→∃i:Nat,i<d.acc.length∧x=(i:Int)) (Wk:L.Nodup) (hP:NG tJ.length oJ L ps met) (hq:q<met.length) (hb:met.getD q 0=((b:Nat):Int)) (v8:b<tJ.length) (hlen:¬(ps.getD b ai).xs.length<(fU ms b).length):
    nE d oJ tJ tG L met E bl ms td wt (q+1):=by
  obtain ⟨m1,m2,m3,_⟩:=Cq h h0 hL hP hq hb v8
  have Wi:b<ms.length:=by have:=h.U1.1;omega
  have V4:(ps.getD b ai).xs.Nodup:=by rw [hP.val b v8];exact Wk.sublist List.filter_sublist
  have all:=Mu V4 (fun x hx=>((m1 x).1 hx).2) oz
  refine ⟨h.jR,h.ref,fun j hj Ab=>h.unt j oz Ab,fun p r hp hr e hn=>?_,h.U1⟩
  by_cases e2:oJ.getD p 0=((b:Nat):Int)
  · have key:∀i:Nat,i<d.acc.length→oJ.getD i 0=((b:Nat):Int)→(i:Int)∈L:=fun i hi e3=>
      ((m1 _).1 (all _ ((h.jR.part.mem b Wi _).2 ⟨i,hi,rfl,(m2 i hi).2 e3⟩))).1
    have e4:=h.ref p r hp hr e
    exact ⟨fun _=>key r hr (by rw [←e4];exact e2),fun _=>key p hp e2⟩
  · refine h.done p r hp hr e fun j hj Ab=>?_
    by_cases e3:j=q
    · subst e3;rw [hb];exact fun h9=>e2 h9.symm
    · exact hn j oz Ab
theorem nE.split {d:ar} {oJ bl qt:List Int} {tJ ms Cn:List (LR Int)} {tG td SC:List (Int×Int)} {L met:List Int} {wt qv:List (LR Bool)} {E:Nat→Nat→Nat→Prop} {q b c t:Nat} {ps:List (LR Int)} (hr:aN d=true) (h:nE d oJ tJ tG L met E bl ms td wt q) (h0:oL d.acc.length oJ tJ) (hs0:ZR d oJ)
    (hL:∀x,x∈L↔∃i:Nat,i<d.acc.length∧x=(i:Int)∧oJ.getD (dl d c i) 0=((t:Nat):Int)) (hc:c<(bD d).length) (Wk:L.Nodup) (hP:NG tJ.length oJ L ps met) (hq:q<met.length) (hb:met.getD q 0=((b:Nat):Int)) (v8:b<tJ.length) (hlen:(ps.getD b ai).xs.length<(fU ms b).length)
    (s:Vo b (ps.getD b ai).xs (bD d).length bl ms td wt qt Cn SC qv):nE d oJ tJ tG L met E qt Cn SC qv (q+1):=by
  have hL':∀x,x∈L→∃i:Nat,i<d.acc.length∧x=(i:Int):=fun x hx=>by obtain ⟨i,hi,e,_⟩:=(hL x).1 hx;exact ⟨i,hi,e⟩
  obtain ⟨m1,m2,m3,m4⟩:=Cq h h0 hL' hP hq hb v8
  have Wi:b<ms.length:=by have:=h.U1.1;omega
  have V4:(ps.getD b ai).xs.Nodup:=by rw [hP.val b v8];exact Wk.sublist List.filter_sublist
  have GW:=h.jR.part.len
  have bv:∀i,i<d.acc.length→qt.getD i 0=if (i:Int)∈(ps.getD b ai).xs then (ms.length:Int) else bl.getD i 0:=fun i hi=>s.bv i oz
  have Qt:∀i:Nat,i<d.acc.length→(i:Int)∈(ps.getD b ai).xs→bl.getD i 0=((b:Nat):Int):=fun i hi ho=>by
    obtain ⟨j,hj,e1,e2⟩:=(h.jR.part.mem b Wi _).1 ((m1 _).1 ho).2
    have:i=j:=by omega
    subst this;exact e2
  have jR:=h.jR.split hr s Wi (fun x hx=>((m1 x).1 hx).2) V4 m4 (Ib (h.jR.part.nd b Wi) hlen) (fun p r hp iK o1 i2 o2=>by
    have l1:=((m1 _).1 o1).1
    have l2:(r:Int)∉L:=fun h9=>o2 ((m1 _).2 ⟨h9,i2⟩)
    obtain ⟨i,hi,e1,e2⟩:=(hL _).1 l1
    have:p=i:=by omega
    subst this
    refine YR hr hc (hs0 _ _ (me hr hc hp).1 (me hr hc iK).1 fun e3=>l2 ((hL _).2 ⟨r,iK,rfl,?_⟩))
    rw [←e3];exact e2)
  have up:∀p r,p<d.acc.length→r<d.acc.length→qt.getD p 0=qt.getD r 0→bl.getD p 0=bl.getD r 0∧((p:Int)∈(ps.getD b ai).xs↔(r:Int)∈(ps.getD b ai).xs):=fun p r hp iK e=>by
    rw [bv p hp,bv r iK] at e
    have r1:=h.jR.part.k8 p hp
    have r2:=h.jR.part.k8 r iK
    by_cases o1:(p:Int)∈(ps.getD b ai).xs
    · by_cases o2:(r:Int)∈(ps.getD b ai).xs
      · exact ⟨by rw [Qt p hp o1,Qt r iK o2],fun _=>o2,fun _=>o1⟩
      · rw [if_pos o1,if_neg o2] at e;omega
    · by_cases o2:(r:Int)∈(ps.getD b ai).xs
      · rw [if_neg o1,if_pos o2] at e;omega
      · rw [if_neg o1,if_neg o2] at e;exact ⟨e,fun h9=>absurd h9 o1,fun h9=>absurd h9 o2⟩
  refine ⟨jR,fun p r hp iK e=>h.ref p r hp iK (up p r hp iK e).1,fun j hj Ab=>?_,fun p r hp iK e hn=>?_,?_⟩
  · have c0:(met.getD j 0).toNat≠b:=fun e=>by
      have h1:=hP.nd
      rw [List.nodup_iff_pairwise_ne,List.pairwise_iff_getElem] at h1
      have h2:=h1 q j hq Ab oz
      have r1:∀i,i<met.length→met.getD i 0=met[i]?.getD 0:=fun i hi=>List.getD_eq_getElem?_getD ..
      have hj0:0≤met.getD j 0:=by
        obtain ⟨x,hx,e9⟩:=(hP.mt (met.getD j 0)).1 (au Ab)
        obtain ⟨i,hi,rfl⟩:=hL' x hx
        have:=h0.k8 i hi
        rw [Int.toNat_natCast] at e9;omega
      apply h2
      have e3:met.getD q 0=met[q]:=by simp [List.getD_eq_getElem?_getD,List.getElem?_eq_getElem hq]
      have e4:met.getD j 0=met[j]:=by simp [List.getD_eq_getElem?_getD,List.getElem?_eq_getElem Ab]
      rw [←e3,←e4,hb];omega
    have cX:(met.getD j 0).toNat<ms.length:=by
      obtain ⟨x,hx,e9⟩:=(hP.mt (met.getD j 0)).1 (au Ab)
      obtain ⟨i,hi,rfl⟩:=hL' x hx
      have:=h0.k8 i hi
      have:=h.U1.1
      rw [Int.toNat_natCast] at e9;omega
    rw [s.m3 _ cX c0]
    exact h.unt j oz Ab
  · obtain ⟨e1,e2⟩:=up p r hp iK e
    by_cases e3:oJ.getD p 0=((b:Nat):Int)
    · have key:∀i:Nat,i<d.acc.length→oJ.getD i 0=((b:Nat):Int)→((i:Int)∈(ps.getD b ai).xs↔(i:Int)∈L):=fun i hi e4=>
        ⟨fun h9=>((m1 _).1 h9).1,fun h9=>(m1 _).2 ⟨h9,(h.jR.part.mem b Wi _).2 ⟨i,hi,rfl,(m2 i hi).2 e4⟩⟩⟩
      have e4:=h.ref p r hp iK e1
      rw [←key p hp e3,←key r iK (by rw [←e4];exact e3)];exact e2
    · refine h.done p r hp iK e1 fun j hj Ab=>?_
      by_cases e5:j=q
      · subst e5;rw [hb];exact fun h9=>e3 h9.symm
      · exact hn j oz Ab
  · have h1:=h.U1
    have h2:=s.ml
    have h3:=s.tl
    refine ⟨by omega,?_⟩
    rw [h2,h3,Nat.add_mul,Nat.one_mul]
    omega
def GG (d:ar) (bl:List Int) (t c k p q:Nat):Prop:=k=c∧¬(bl.getD (dl d c p) 0=((t:Nat):Int)↔bl.getD (dl d c q) 0=((t:Nat):Int))
theorem lR.take {d:ar} {bl:List Int} {ms:List (LR Int)} {td:List (Int×Int)} {wt qv:List (LR Bool)} {t c:Nat} (hr:aN d=true) (h:lR d bl ms (td++[(((t:Nat):Int),((c:Nat):Int))]) wt (fun _ _ _=>False)) (s:tB wt t c false qv):
    lR d bl ms td qv (GG d bl t c):=by
  refine ⟨h.part,⟨by rw [s.len];exact h.wait.len,fun b hb=>by rw [s.row];exact h.wait.row b hb,fun b k hb hk h9=>?_,fun u hu=>h.wait.bd u (List.mem_append_left _ hu)⟩,?_,h.snd,h.acc⟩
  · rw [s.val] at h9
    split at h9
    · cases h9
    · rename_i c0
      rcases List.mem_append.1 (h.wait.todo b k hb hk h9) with h8|h8
      · exact h8
      · have h7:=List.mem_singleton.1 h8
        simp only [Prod.mk.injEq] at h7
        exact absurd ⟨by omega,by omega⟩ c0
  · intro k p q hk hp hq e c0
    have lp:=(me hr hk hp).1
    have lq:=(me hr hk hq).1
    have rp:=h.part.k8 _ lp
    have rq:=h.part.k8 _ lq
    by_cases hE:GG d bl t c k p q
    · exact .inr (.inr hE)
    · have acd:k=c→(bl.getD (dl d c p) 0=((t:Nat):Int)↔bl.getD (dl d c q) 0=((t:Nat):Int)):=fun e9=>Classical.byContradiction fun h8=>hE ⟨e9,h8⟩
      rcases h.Tj k p q hk hp hq e c0 with h9|h9|h9
      · refine .inl ?_
        rw [s.val,if_neg];exact h9
        rintro ⟨e1,e2⟩
        have e3:=acd e2
        subst e2
        have e4:bl.getD (dl d k p) 0=((t:Nat):Int):=by unfold bk at e1;omega
        exact c0 (by rw [e4,e3.1 e4])
      · refine .inr (.inl ?_)
        rw [s.val,if_neg];exact h9
        rintro ⟨e1,e2⟩
        have e3:=acd e2
        subst e2
        have e4:bl.getD (dl d k q) 0=((t:Nat):Int):=by unfold bk at e1;omega
        exact c0 (by rw [e4,e3.2 e4])
      · exact h9.elim
theorem nE.fin {d:ar} {oJ bl:List Int} {tJ ms:List (LR Int)} {tG td:List (Int×Int)} {L met:List Int} {wt:List (LR Bool)} {q c t:Nat} (h:nE d oJ tJ tG L met (GG d oJ t c) bl ms td wt q) (hq:¬q<met.length)
    (hL:∀x,x∈L↔∃i:Nat,i<d.acc.length∧x=(i:Int)∧oJ.getD (dl d c i) 0=((t:Nat):Int)):lR d bl ms td wt (fun _ _ _=>False):=by
  refine ⟨h.jR.part,h.jR.wait,?_,h.jR.snd,h.jR.acc⟩
  intro k p r hk hp hr e c0
  have hd:=h.done p r hp hr e (fun j hj Ab=>by omega)
  rcases h.jR.Tj k p r hk hp hr e c0 with h9|h9|⟨_,h9⟩
  · exact .inl h9
  · exact .inr (.inl h9)
  · exfalso
    apply h9
    have key:∀i:Nat,i<d.acc.length→((i:Int)∈L↔oJ.getD (dl d c i) 0=((t:Nat):Int)):=fun i hi=>by
      rw [hL]
      constructor
      · rintro ⟨j,hj,e1,e2⟩
        have:i=j:=by omega
        subst this;exact e2
      · intro e1;exact ⟨i,hi,rfl,e1⟩
    rw [←key p hp,←key r hr];exact hd
theorem lR.alike {d:ar} (hr:aN d=true) {bl:List Int} {ms:List (LR Int)} {wt:List (LR Bool)} (h:lR d bl ms [] wt (fun _ _ _=>False)):∀(t p q:Nat),p<d.acc.length→q<d.acc.length→fD d t p q→bl.getD p 0≠bl.getD q 0
  | 0,p,q,hp,hq,hd,e=>hd (h.acc p q hp hq e)
  | t+1,p,q,hp,hq,hd,e=>by
    rcases hd with hd|⟨c,hc,hd⟩
    · exact lR.alike hr h t p q hp hq hd e
    · obtain ⟨k,hk,e2⟩:=YP hr hc
      rw [e2,e2] at hd
      have lp:=(me hr hk hp).1
      have lq:=(me hr hk hq).1
      have rp:=h.part.k8 _ lp
      have rq:=h.part.k8 _ lq
      have hn:=lR.alike hr h t _ _ lp lq hd
      rcases h.Tj k p q hk hp hq e hn with h9|h9|h9
      · exact absurd (h.wait.todo _ k (by unfold bk;omega) hk h9) (by simp)
      · exact absurd (h.wait.todo _ k (by unfold bk;omega) hk h9) (by simp)
      · exact h9
theorem lR.blocks {d:ar} (hr:aN d=true) {bl:List Int} {ms:List (LR Int)} {td:List (Int×Int)} {wt:List (LR Bool)} (h:lR d bl ms td wt (fun _ _ _=>False)) (ht:¬0<td.length):ff bl bl=uM d∧kc bl bl=((dd (pJ d)).length:Int):=by
  have ht0:td=[]:=List.length_eq_zero_iff.1 oz
  subst ht0
  have hl:=h.part.len
  have zA:=(uL d).len
  have hk:∀i k,i<d.acc.length→k<d.acc.length→((bl.zip bl)[i]?=(bl.zip bl)[k]?↔(pJ d)[i]?=(pJ d)[k]?):=fun i k hi tK=>by
    have gz:∀i,i<d.acc.length→(bl.zip bl)[i]?=some (bl.getD i 0,bl.getD i 0):=fun i hi=>by
      rw [List.getElem?_eq_getElem (by rw [List.length_zip];omega),List.getElem_zip]
      simp [List.getD_eq_getElem?_getD,List.getElem?_eq_getElem (show i<bl.length by omega)]
    have gf:∀i,i<d.acc.length→(pJ d)[i]?=some ((pJ d).getD i 0):=fun i hi=>by
      simp [List.getD_eq_getElem?_getD,List.getElem?_eq_getElem (show i<(pJ d).length by omega)]
    rw [gz i hi,gz k tK,gf i hi,gf k tK]
    simp only [Option.some.injEq,Prod.mk.injEq,and_self]
    rw [(uL d).kernel (OI d _) hi tK]
    constructor
    · intro e
      exact (wQ hr hi tK).1 fun ⟨t,hd⟩=>lR.alike hr h t i k hi tK hd e
    · intro e
      exact Classical.byContradiction fun hn=>(wQ hr hi tK).2 e (h.snd i k hi tK hn)
  have key:=yb d.acc.length (bl.zip bl) (pJ d) (by simp [hl]) zA hk
  constructor
  · unfold ff uM;rw [if_pos rfl];exact key.1
  · unfold kc;rw [if_pos rfl,key.2]
def lD (p:Int→Bool) (s:List Int) (k:Nat):Prop:=(s.take k).filter p=[]
theorem Fa {p:Int→Bool} {s:List Int} {k:Nat} (h:lD p s k) (hk:k<s.length) (hp:¬p (s.getD k 0)=true):lD p s (k+1):=by
  have e:s.getD k 0=s[k]:=by simp [List.getD_eq_getElem?_getD,List.getElem?_eq_getElem hk]
  rw [e] at hp
  unfold lD at*
  rw [List.take_add_one,List.getElem?_eq_getElem hk,List.filter_append,h];simp [hp]
theorem Ba {p:Int→Bool} {s:List Int} {k:Nat} (h:lD p s k):(s.take k).filter (fun x=> !p x)=s.take k:=by
  rw [List.filter_eq_self]
  intro x hx
  have:x∉(s.take k).filter p:=by rw [show (s.take k).filter p=[] from h];simp
  simpa [hx] using this
structure tF (p:Int→Bool) (s ys:List Int) (i j:Nat):Prop where
  len:ys.length=s.length
  le:i<j
  pre:ys.take i=(s.take j).filter (fun x=> !p x)
  post:ys.drop j=s.drop j
theorem tF.start {p:Int→Bool} {s:List Int} {k:Nat} (h:lD p s k) (hk:k<s.length) (hp:p (s.getD k 0)=true):tF p s s k (k+1):=by
  have e:s.getD k 0=s[k]:=by simp [List.getD_eq_getElem?_getD,List.getElem?_eq_getElem hk]
  rw [e] at hp
  refine ⟨rfl,by omega,?_,rfl⟩
  rw [List.take_add_one,List.getElem?_eq_getElem hk,List.filter_append,Ba h];simp [hp]
section
variable {p:Int→Bool} {s ys:List Int} {i j:Nat}
theorem tF.get (h:tF p s ys i j) (hj:j<s.length):ys.getD j 0=s.getD j 0:=by
  have h1:=congrArg (fun l=>l[0]?) h.post
  simp only [List.getElem?_drop,Nat.add_zero] at h1
  simp only [List.getD_eq_getElem?_getD,h1]
theorem tF.no (h:tF p s ys i j) (hj:j<s.length) (hp:p (ys.getD j 0)=true):tF p s ys i (j+1):=by
  rw [h.get hj] at hp
  have e:s.getD j 0=s[j]:=by simp [List.getD_eq_getElem?_getD,List.getElem?_eq_getElem hj]
  rw [e] at hp
  refine ⟨h.len,by have:=h.le;omega,?_,?_⟩
  · rw [h.pre,List.take_add_one,List.getElem?_eq_getElem hj,List.filter_append];simp [hp]
  · have:=congrArg (List.drop 1) h.post;simpa [List.drop_drop] using this
theorem tF.yes (h:tF p s ys i j) (hj:j<s.length) (hp:¬p (ys.getD j 0)=true):tF p s (ys.set i (ys.getD j 0)) (i+1) (j+1):=by
  have hg:=h.get hj
  rw [hg] at hp ⊢
  have e:s.getD j 0=s[j]:=by simp [List.getD_eq_getElem?_getD,List.getElem?_eq_getElem hj]
  rw [e] at hp ⊢
  have hle:=h.le;have hlen:=h.len
  have hi:i<ys.length:=by omega
  refine ⟨by simp [hlen],by omega,?_,?_⟩
  · rw [List.take_add_one,List.take_set_of_le oz,h.pre,List.getElem?_set_self hi]
    rw [List.take_add_one,List.getElem?_eq_getElem hj,List.filter_append];simp [hp]
  · rw [List.drop_set_of_lt oz]
    have:=congrArg (List.drop 1) h.post;simpa [List.drop_drop] using this
theorem tF.fin (h:tF p s ys i j) (hj:¬j<s.length):ys.take i=s.filter (fun x=> !p x):=by
  rw [h.pre,List.take_of_length_le oz]
end
theorem Af {p:Int→Bool} {s:List Int} :∀(n k:Nat),n=s.length-k→lD p s k→k≤s.length→(eE p s k= -1∧lD p s s.length)∨∃j:Nat,eE p s k=(j:Int)∧j<s.length∧lD p s j∧p (s.getD j 0)=true:=by
  intro n
  induction n with
  | zero=>
    intro k hn h hk
    have:k=s.length:=by omega
    subst this
    exact .inl ⟨s8 p s _ (Nat.le_refl _),h⟩
  | succ n ih=>
    intro k hn h hk
    have cX:k<s.length:=by omega
    by_cases hp:p (s.getD k 0)=true
    · exact .inr ⟨k,s7 p s k cX hp,cX,h,hp⟩
    · rw [vD p s k cX hp]
      exact ih (k+1) oz (Fa h cX hp) cX
theorem IS (p:Int→Bool) (s:List Int):(pD p s= -1∧lD p s s.length)∨∃j:Nat,pD p s=(j:Int)∧j<s.length∧lD p s j∧p (s.getD j 0)=true:=
  Af _ 0 rfl (by simp [lD]) oz
def qY (gm:List (Int×Int)) (l:List Int) (k:Nat):Prop:=∀x,(getM gm x).getD 0=if x∈l.take k then 1 else 0
theorem qY.start (l:List Int):qY [] l 0:=fun x=>by simp [getM]
theorem qY.step {gm:List (Int×Int)} {l:List Int} {k:Nat} (h:qY gm l k) (hk:k<l.length):qY (jN gm (l.getD k 0) 1) l (k+1):=fun x=>by
  rw [s3,cr 0 hk]
  by_cases e:x=l.getD k 0
  · rw [if_pos e,if_pos (by simp [e])];rfl
  · rw [if_neg e,h x]
    by_cases e2:x∈l.take k
    · rw [if_pos e2,if_pos (List.mem_append_left _ e2)]
    · rw [if_neg e2,if_neg (by simp only [List.mem_append,List.mem_singleton];exact fun h9=>h9.elim e2 e)]
theorem qY.fin {gm:List (Int×Int)} {l:List Int} {k:Nat} (h:qY gm l k) (hk:¬k<l.length) (x:Int):decide ((getM gm x).getD 0=1)=decide (x∈l):=by
  rw [h x,List.take_of_length_le oz]
  by_cases e:x∈l
  · rw [if_pos e];simp [e]
  · rw [if_neg e];simp [e]
theorem yj {κ ν:Type} {w w':World} {ek:κ→Value} {fW:ν→Value} {g:Nat} {m:List (κ×ν)} {S:List Nat} (h:pP w ek fW g m) (k:di S w w') (hS:g∉S):pP w' ek fW g m:=by
  obtain ⟨es,clock,h1,h2⟩:=h
  exact ⟨es,clock,k.obj h1 hS,h2⟩
theorem Qa {κ ν:Type} {w w' lZ:World} {L A:List Chunk} {G:List (List Chunk)} {ek:κ→Value} {fW:ν→Value} {g:Nat} {m:List (κ×ν)} (h:aA w L w' G) (i j:Nat) (cN:Nat.beq i j=false) (hi:G[i]?=some A) (hj:G[j]?=some [eD ek fW g m]) (k:di (dI A) w' lZ):pP lZ ek fW g m:=
  yj (h.po j hj) k fun hm=>(h.Bl i j cN hi hj).apart hm (by simp [dI,eD])
theorem W5 {ms:List (LR Int)} {b k:Nat} {out:List Int} {gm:List (Int×Int)} {a oa:aO} {n c on oc:Nat} (hb:b<ms.length) (hg:qY gm out k) (hk:¬k<out.length):
    ((ms.set b ⟨a,n,c,(ms.getD b ai).xs.filter (fun x=> !(fun x=>decide ((getM gm x).getD 0=1)) x)⟩)++([⟨oa,on,oc,out⟩]:List (LR Int))).length=ms.length+1∧
    fU ((ms.set b ⟨a,n,c,(ms.getD b ai).xs.filter (fun x=> !(fun x=>decide ((getM gm x).getD 0=1)) x)⟩)++([⟨oa,on,oc,out⟩]:List (LR Int))) b=(fU ms b).filter (fun x=> !decide (x∈out))∧
    fU ((ms.set b ⟨a,n,c,(ms.getD b ai).xs.filter (fun x=> !(fun x=>decide ((getM gm x).getD 0=1)) x)⟩)++([⟨oa,on,oc,out⟩]:List (LR Int))) ms.length=out∧
    ∀i,i<ms.length→i≠b→((ms.set b ⟨a,n,c,(ms.getD b ai).xs.filter (fun x=> !(fun x=>decide ((getM gm x).getD 0=1)) x)⟩)++([⟨oa,on,oc,out⟩]:List (LR Int))).getD i ai=ms.getD i ai:=by
  have hl:(ms.set b ⟨a,n,c,(ms.getD b ai).xs.filter (fun x=> !(fun x=>decide ((getM gm x).getD 0=1)) x)⟩).length=ms.length:=List.length_set
  refine ⟨by rw [List.length_append,hl];rfl,?_,?_,fun i hi c0=>?_⟩
  · unfold fU
    rw [np (by rw [hl];exact hb),eN hb,if_pos rfl]
    refine List.filter_congr fun x _=>?_
    show (!decide ((getM gm x).getD 0=1))=_
    rw [hg.fin hk x]
  · unfold fU
    rw [←hl,n6]
  · rw [np (by rw [hl];exact hi),eN hb,if_neg (fun e=>c0 e.symm)]
theorem FU {α β:Type} {f:α→List β} {N:Nat} :∀ {l:List α},(∀x,x∈l→(f x).length≤N)→(l.flatMap f).length≤l.length*N
  | [],_=>by simp
  | a::l,h=>by
    rw [List.flatMap_cons,List.length_append,List.length_cons,Nat.add_mul,Nat.one_mul]
    have h1:=h a List.mem_cons_self
    have h2:=FU (l:=l) (fun x hx=>h x (List.mem_cons_of_mem _ hx))
    omega
theorem CP {d:ar} {F:List (LR (LR Int))} (hF:zi d F) {c t:Nat} (hc:c<F.length) (ht:t<d.acc.length):(tL F c (t:Int)).length≤d.acc.length:=by
  have:=cM (hF.nd c hc t ht) (m:=(List.range d.acc.length).map fun i:Nat=>(i:Int)) (fun x hx=>by
    obtain ⟨j,hj,e,_⟩:=(hF.mem c hc t ht x).1 hx
    exact List.mem_map.2 ⟨j,List.mem_range.2 hj,e.symm⟩)
  simpa using this
theorem Lq {d:ar} {F:List (LR (LR Int))} {bl:List Int} {ms:List (LR Int)} (hF:zi d F) (hp:oL d.acc.length bl ms) (hr:aN d=true) {c t:Nat} (hc:c<F.length) (ht:t<ms.length) (q r:Nat):(rV F c (fU ms t) q r).length≤4097*4096:=by
  have hn:=(bo.1 hr).1
  have hm:=hp.vX ht
  have h1:((fU ms t).take q).length≤4096:=by rw [List.length_take];omega
  have h2:=FU (f:=tL F c) (l:=(fU ms t).take q) (N:=4096) (fun x hx=>by
    obtain ⟨i,hi,rfl,_⟩:=(hp.mem t ht x).1 (List.mem_of_mem_take hx)
    have:=CP hF hc hi;omega)
  have h3:(tL F c ((fU ms t).getD q 0)).length≤4096:=by
    by_cases hq:q<(fU ms t).length
    · obtain ⟨i,hi,e,_⟩:=(hp.mem t ht _).1 (au (d:=0) hq)
      rw [e];have:=CP hF hc hi;omega
    · have e:(fU ms t).getD q 0=((0:Nat):Int):=by rw [List.getD_eq_getElem?_getD,List.getElem?_eq_none oz];rfl
      rw [e];have:=CP hF hc (t:=0) oz;omega
  have h4:=Nat.mul_le_mul_right 4096 h1
  unfold rV
  rw [List.length_append,List.length_take]
  omega
theorem NG.vX {nb:Nat} {bl L:List Int} {ps:List (LR Int)} {met:List Int} (h:NG nb bl L ps met):met.length≤L.length:=by
  have:=cM h.nd (m:=L.map fun x=>bl.getD x.toNat 0) (fun y hy=>by
    obtain ⟨x,hx,e⟩:=(h.mt y).1 hy
    exact List.mem_map.2 ⟨x,hx,e⟩)
  simpa using this
theorem Kf {met:List Int} {pq ps:List (LR Int)} {nb q b:Nat} (nd:met.Nodup) (SL:∀j,j<met.length→0≤met.getD j 0) (h:pq.length=nb∧∀j,q≤j→j<met.length→pq.getD (met.getD j 0).toNat ai=ps.getD (met.getD j 0).toNat ai) (hq:q<met.length) (hb:met.getD q 0=((b:Nat):Int)) (v8:b<nb):
    (pq.set b ai).length=nb∧∀j,q+1≤j→j<met.length→(pq.set b ai).getD (met.getD j 0).toNat ai=ps.getD (met.getD j 0).toNat ai:=by
  refine ⟨by rw [List.length_set];exact h.1,fun j h1 h2=>?_⟩
  rw [eN (by rw [h.1];exact v8),if_neg]
  · exact h.2 j oz h2
  · intro e
    rw [List.nodup_iff_pairwise_ne,List.pairwise_iff_getElem] at nd
    apply nd q j hq h2 oz
    have e3:met.getD q 0=met[q]:=by simp [List.getD_eq_getElem?_getD,List.getElem?_eq_getElem hq]
    have e4:met.getD j 0=met[j]:=by simp [List.getD_eq_getElem?_getD,List.getElem?_eq_getElem h2]
    have:=SL j h2
    rw [←e3,←e4,hb];omega
abbrev CD:ga (LR Int) Int:=bh (aw .i64) 3
abbrev T3:ga (LR Int) Int:=bh (aw .i64) 3
abbrev Ix:ga (LR Int) Int:=bh (aw .i64) 3
theorem aA.Qp {w w':World} {L:List Chunk} {G:List (List Chunk)} {f:LR Int→Chunk} {F:List (LR (LR Int))} (p:LR (LR Int)) (h:aA w L w' G) (i j:Nat) (cN:Nat.beq i j=false) (hi:G[i]?=some [aC f (F.flatMap LR.xs)]) (hj:G[j]?=some [aC f p.xs]):
    aA w L w' ((G.set i [aC f ((F++[p]).flatMap LR.xs)]).set j []++[[]]):=by
  have h1:=h.Qn i j cN hi hj
  have e:(F++[p]).flatMap LR.xs=F.flatMap LR.xs++p.xs:=by simp
  rw [e];exact h1
structure WI (d:ar) (k:Nat) (ps:List (LR Int)) (i:Nat):Prop where
  len:ps.length=d.acc.length
  mem:∀t:Nat,t<d.acc.length→∀x:Int,x∈(ps.getD t ai).xs↔∃j:Nat,j<i∧x=(j:Int)∧dl d k j=t
  nd:∀t:Nat,t<d.acc.length→(ps.getD t ai).xs.Nodup
  size:∀t:Nat,t<d.acc.length→(ps.getD t ai).xs.length≤i
theorem WI.start (d:ar) (k:Nat):WI d k (List.replicate d.acc.length ai) 0:=by
  have e:∀t:Nat,((List.replicate d.acc.length (ai:LR Int)).getD t ai).xs=[]:=fun t=>by
    simp only [List.getD_eq_getElem?_getD,List.getElem?_replicate];split<;>rfl
  exact ⟨by simp,fun t ht x=>by rw [e];simp,fun t ht=>by rw [e];simp,fun t ht=>by rw [e];simp⟩
theorem WI.step {d:ar} {k i q:Nat} {ps:List (LR Int)} {a:aO} {c m:Nat} (h:WI d k ps i) (hq:dl d k i=q) (hqn:q<d.acc.length):WI d k (ps.set q ⟨a,m,c,(ps.getD q ai).xs++[(i:Int)]⟩) (i+1):=by
  have hl:q<ps.length:=by rw [h.len];exact hqn
  refine ⟨by simp [h.len],fun t ht x=>?_,fun t ht=>?_,fun t ht=>?_⟩
  · rw [eN hl]
    by_cases e:q=t
    · subst e
      rw [if_pos rfl]
      show x∈(ps.getD q ai).xs++[(i:Int)]↔_
      rw [List.mem_append,h.mem q ht,List.mem_singleton]
      constructor
      · rintro (⟨j,h1,h2,h3⟩|h1)
        · exact ⟨j,by omega,h2,h3⟩
        · exact ⟨i,by omega,h1,hq⟩
      · rintro ⟨j,h1,h2,h3⟩
        by_cases e2:j=i
        · subst e2;exact .inr h2
        · exact .inl ⟨j,by omega,h2,h3⟩
    · rw [if_neg e,h.mem t ht]
      constructor
      · rintro ⟨j,h1,h2,h3⟩;exact ⟨j,by omega,h2,h3⟩
      · rintro ⟨j,h1,h2,h3⟩
        by_cases e2:j=i
        · subst e2;exact absurd (hq.symm.trans h3) e
        · exact ⟨j,by omega,h2,h3⟩
  · rw [eN hl]
    split
    · rename_i e;subst e
      show ((ps.getD q ai).xs++[(i:Int)]).Nodup
      refine List.nodup_append.2 ⟨h.nd q ht,by simp,fun u hu v hv e=>?_⟩
      rw [List.mem_singleton.1 hv] at e
      obtain ⟨j,h1,h2,_⟩:=(h.mem q ht u).1 hu
      omega
    · exact h.nd t ht
  · rw [eN hl]
    split
    · rename_i e;subst e
      show ((ps.getD q ai).xs++[(i:Int)]).length≤i+1
      have:=h.size q ht
      rw [List.length_append,List.length_singleton];omega
    · have:=h.size t ht;omega
structure tC (d:ar) (F:List (LR (LR Int))) (n:Nat):Prop where
  len:F.length=n
  row:∀k,k<n→(F.getD k ai).xs.length=d.acc.length
  mem:∀k,k<n→∀t:Nat,t<d.acc.length→∀x:Int,x∈tL F k (t:Int)↔∃i:Nat,i<d.acc.length∧x=(i:Int)∧dl d k i=t
  nd:∀k,k<n→∀t:Nat,t<d.acc.length→(tL F k (t:Int)).Nodup
theorem tC.start (d:ar):tC d [] 0:=⟨rfl,fun k h=>by omega,fun k h=>by omega,fun k h=>by omega⟩
theorem tC.step {d:ar} {F:List (LR (LR Int))} {k i:Nat} {ps:List (LR Int)} {a:aO} {m c:Nat} (h:tC d F k) (hp:WI d k ps i) (hi:i=d.acc.length):tC d (F++[⟨a,m,c,ps⟩]) (k+1):=by
  subst hi
  have hl:=h.len
  have e1:∀j,j<k→(F++[(⟨a,m,c,ps⟩:LR (LR Int))]).getD j ai=F.getD j ai:=fun j hj=>np oz
  have e2:(F++[(⟨a,m,c,ps⟩:LR (LR Int))]).getD k ai=⟨a,m,c,ps⟩:=by rw [←hl];exact n6
  refine ⟨by simp [hl],fun j hj=>?_,fun j hj t ht x=>?_,fun j hj t ht=>?_⟩
  · by_cases e:j=k
    · subst e;rw [e2];exact hp.len
    · rw [e1 j oz];exact h.row j oz
  · unfold tL
    by_cases e:j=k
    · subst e;rw [e2,Int.toNat_natCast];exact hp.mem t ht x
    · rw [e1 j oz];exact h.mem j oz t ht x
  · unfold tL
    by_cases e:j=k
    · subst e;rw [e2,Int.toNat_natCast];exact hp.nd t ht
    · rw [e1 j oz];exact h.nd j oz t ht
theorem tC.fin {d:ar} {F:List (LR (LR Int))} {k:Nat} (h:tC d F k) (hk:k=(bD d).length):zi d F:=by
  subst hk
  have hl:=h.len
  exact ⟨hl,fun k hk=>h.row k oz,fun k hk=>h.mem k oz,fun k hk=>h.nd k oz⟩
def ij (d:ar) (b:Bool) (k:Nat):List Int:=List.map (fun i:Nat=>(i:Int)) (List.filter (fun i:Nat=>d.acc.getD i false==b) (List.range k))
theorem ig {d:ar} {b:Bool} {k:Nat} {x:Int} :x∈ij d b k↔∃i:Nat,i<k∧x=(i:Int)∧d.acc.getD i false=b:=by
  simp only [ij,List.mem_map,List.mem_filter,List.mem_range,beq_iff_eq]
  constructor
  · rintro ⟨i,⟨h1,h2⟩,rfl⟩;exact ⟨i,h1,rfl,h2⟩
  · rintro ⟨i,h1,rfl,h2⟩;exact ⟨i,⟨h1,h2⟩,rfl⟩
theorem Tl (d:ar) (b:Bool) (k:Nat):(ij d b k).Nodup:=by
  rw [ij,List.nodup_iff_pairwise_ne,List.pairwise_map]
  exact (List.nodup_iff_pairwise_ne.1 (List.nodup_range.sublist List.filter_sublist)).imp (fun c0 e=>c0 oz)
theorem sh (d:ar) (b:Bool) (k:Nat):(ij d b k).length≤k:=by
  have:=List.length_filter_le (fun i=>d.acc.getD i false==b) (List.range k)
  simp only [ij,List.length_map];simpa using this
theorem sg {d:ar} {b:Bool} {k:Nat} (h:d.acc.getD k false=b):ij d b k++[(k:Int)]=ij d b (k+1):=by
  rw [List.getD_eq_getElem?_getD] at h;simp [ij,List.range_succ,List.filter_append,h]
theorem wB {d:ar} {b:Bool} {k:Nat} (h:¬d.acc.getD k false=b):ij d b k=ij d b (k+1):=by
  rw [List.getD_eq_getElem?_getD] at h;simp [ij,List.range_succ,List.filter_append,h]
def DZ (d:ar):List (List Int):=[ij d false d.acc.length,ij d true d.acc.length]
structure kX (d:ar) (K:Nat) (bq:List Int) (mq:List (LR Int)) (wq:List (LR Bool)) (k:Nat):Prop where
  bl:bq.length=d.acc.length
  sub:mq.map LR.xs=((DZ d).take k).filter (fun l=> !l.isEmpty)
  bv:∀b,b<mq.length→∀x,x∈fU mq b→bq.getD x.toNat 0=((b:Nat):Int)
  wl:wq.length=mq.length
  wf:∀i,i<wq.length→(wq.getD i ai).xs=List.replicate K false
theorem kX.start {d:ar} {K n:Nat} (h:n=d.acc.length):kX d K (List.replicate n 0) [] [] 0:=⟨by simp [h],rfl,fun b hb=>by simp at hb,rfl,fun i hi=>by simp at hi⟩
theorem kX.vX {d:ar} {K:Nat} {bq:List Int} {mq:List (LR Int)} {wq:List (LR Bool)} {k:Nat} (h:kX d K bq mq wq k):mq.length≤2:=by
  have h1:=congrArg List.length h.sub
  rw [List.length_map] at h1
  rw [h1]
  refine Nat.le_trans (List.length_filter_le _ _) ?_
  rw [List.length_take];exact Nat.min_le_right _ _
theorem Kv {mq:List (LR Int)} {b:Nat} (hb:b<mq.length):(mq.map LR.xs)[b]?=some (fU mq b):=by
  unfold fU;rw [List.getElem?_map,List.getElem?_eq_getElem hb];simp [List.getD_eq_getElem?_getD,List.getElem?_eq_getElem hb]
theorem kX.block {d:ar} {K:Nat} {bq:List Int} {mq:List (LR Int)} {wq:List (LR Bool)} {k:Nat} (h:kX d K bq mq wq k) {b:Nat} (hb:b<mq.length):fU mq b≠[]∧fU mq b∈(DZ d).take k:=by
  have h1:=List.mem_of_getElem? (Kv hb)
  rw [h.sub,List.mem_filter] at h1
  exact ⟨fun e=>by rw [e] at h1;simp at h1,h1.1⟩
theorem AB (d:ar) {k:Nat} (hk:k<2):(DZ d).take (k+1)=(DZ d).take k++[ij d (decide (k=1)) d.acc.length]:=by
  rcases (by omega:k=0∨k=1) with rfl|rfl<;>rfl
theorem kX.skip {d:ar} {K:Nat} {bq:List Int} {mq:List (LR Int)} {wq:List (LR Bool)} {k:Nat} (h:kX d K bq mq wq k) (hk:k<2) (he:ij d (decide (k=1)) d.acc.length=[]):kX d K bq mq wq (k+1):=
  ⟨h.bl,by rw [AB d hk,List.filter_append,he,h.sub];simp,h.bv,h.wl,h.wf⟩
theorem kX.add {d:ar} {K ln lc:Nat} {la:aO} {l bq bq':List Int} {mq:List (LR Int)} {wq wq':List (LR Bool)} {k:Nat} (h:kX d K bq mq wq k) (hk:k<2) (hl:l=ij d (decide (k=1)) d.acc.length) (he:l≠[]) (s:aeC l K la ln lc bq mq wq bq' wq'):
    kX d K bq' (mq++[⟨la,ln,lc,l⟩]) wq' (k+1):=by
  refine ⟨by rw [s.bll];exact h.bl,?_,fun b hb x hx=>?_,by rw [s.wl,h.wl];simp,fun i hi=>?_⟩
  · rw [AB d hk,List.filter_append,List.map_append,h.sub,←hl]
    congr 1
    have:l.isEmpty=false:=by cases l with
      | nil=>exact absurd rfl he
      | cons=>rfl
    simp [this]
  · simp only [List.length_append,List.length_singleton] at hb
    by_cases e:b=mq.length
    · subst e
      unfold fU at hx
      rw [n6] at hx
      have hx':x∈ij d (decide (k=1)) d.acc.length:=hl▸hx
      obtain ⟨i,hi,rfl,_⟩:=ig.1 hx'
      rw [Int.toNat_natCast,s.bv i (by rw [h.bl];exact hi),if_pos hx]
    · have DI:b<mq.length:=by omega
      unfold fU at hx
      rw [np DI] at hx
      have h1:=h.bv b DI x hx
      have h2:=(h.block DI).2
      rcases (by omega:k=0∨k=1) with rfl|rfl
      · simp at h2
      · have h3:fU mq b=ij d false d.acc.length:=by simpa [DZ] using h2
        have NO:x∈ij d false d.acc.length:=by rw [←h3];exact hx
        obtain ⟨i,hi,rfl,hf⟩:=ig.1 NO
        rw [Int.toNat_natCast] at h1 ⊢
        rw [s.bv i (by rw [h.bl];exact hi),if_neg]
        · exact h1
        · intro h9
          rw [hl] at h9
          obtain ⟨j,hj,e2,ht⟩:=ig.1 h9
          have:i=j:=by omega
          subst this
          rw [hf] at ht;cases ht
  · rw [s.wl] at hi
    by_cases e:i=wq.length
    · subst e;exact s.wn
    · rw [s.wo i oz];exact h.wf i oz
theorem kX.is {d:ar} {K:Nat} {bq:List Int} {mq:List (LR Int)} {wq:List (LR Bool)} (h:kX d K bq mq wq 2):(∀i,i<d.acc.length→∃b,b<mq.length∧fU mq b=ij d (d.acc.getD i false) d.acc.length∧bq.getD i 0=((b:Nat):Int))∧∀b,b<mq.length→∃v,fU mq b=ij d v d.acc.length:=by
  constructor
  · intro i hi
    have hm:(i:Int)∈ij d (d.acc.getD i false) d.acc.length:=ig.2 ⟨i,hi,rfl,rfl⟩
    have h1:ij d (d.acc.getD i false) d.acc.length∈mq.map LR.xs:=by
      rw [h.sub,List.mem_filter]
      refine ⟨?_,?_⟩
      · show _∈(DZ d).take 2
        cases d.acc.getD i false<;>simp [DZ]
      · have:=List.ne_nil_of_mem hm
        cases hc:ij d (d.acc.getD i false) d.acc.length with
        | nil=>exact absurd hc this
        | cons=>rfl
    obtain ⟨b,hb,e⟩:=List.mem_iff_getElem.1 h1
    have DI:b<mq.length:=by simpa using hb
    have e2:fU mq b=ij d (d.acc.getD i false) d.acc.length:=by
      have:=Kv DI
      rw [List.getElem?_eq_getElem hb,e] at this
      exact (Option.some.inj this).symm
    exact ⟨b,DI,e2,by have:=h.bv b DI (i:Int) (by rw [e2];exact hm);rwa [Int.toNat_natCast] at this⟩
  · intro b hb
    have h1:=(h.block hb).2
    have h2:fU mq b=ij d false d.acc.length∨fU mq b=ij d true d.acc.length:=by simpa [DZ] using h1
    rcases h2 with h2|h2
    · exact ⟨_,h2⟩
    · exact ⟨_,h2⟩
theorem kX.part {d:ar} {K:Nat} {bq:List Int} {mq:List (LR Int)} {wq:List (LR Bool)} (h:kX d K bq mq wq 2):oL d.acc.length bq mq∧ZR d bq∧aeD d bq:=by
  obtain ⟨i1,i2⟩:=h.is
  refine ⟨⟨h.bl,fun i hi=>?_,fun b hb x=>?_,fun b hb=>?_,fun b hb=>(h.block hb).1⟩,fun p q hp hq c0=>?_,fun p q hp hq e=>?_⟩
  · obtain ⟨b,hb,_,e⟩:=i1 i hi
    omega
  · constructor
    · intro hx
      obtain ⟨v,hv⟩:=i2 b hb
      have NO:=hx
      rw [hv] at NO
      obtain ⟨i,hi,rfl,_⟩:=ig.1 NO
      have:=h.bv b hb _ hx
      rw [Int.toNat_natCast] at this
      exact ⟨i,hi,rfl,this⟩
    · rintro ⟨i,hi,rfl,e⟩
      obtain ⟨b',DI,e2,e3⟩:=i1 i hi
      have:b'=b:=by omega
      subst this
      rw [e2];exact ig.2 ⟨i,hi,rfl,rfl⟩
  · obtain ⟨v,hv⟩:=i2 b hb
    rw [hv];exact Tl _ _ _
  · refine ⟨0,fun e=>c0 ?_⟩
    obtain ⟨b,hb,e2,e3⟩:=i1 p hp
    obtain ⟨b',DI,e4,e5⟩:=i1 q hq
    have hqm:(q:Int)∈fU mq b:=by rw [e2,e];exact ig.2 ⟨q,hq,rfl,rfl⟩
    have:=h.bv b hb _ hqm
    rw [Int.toNat_natCast] at this
    rw [e3,this]
  · obtain ⟨b,hb,e2,e3⟩:=i1 p hp
    obtain ⟨b',DI,e4,e5⟩:=i1 q hq
    have:b=b':=by omega
    subst this
    have hpm:(p:Int)∈ij d (d.acc.getD q false) d.acc.length:=by rw [←e4,e2];exact ig.2 ⟨p,hp,rfl,rfl⟩
    obtain ⟨i,hi,e6,e7⟩:=ig.1 hpm
    have:p=i:=by omega
    subst this;exact e7
theorem kX.ah8 {d:ar} (hr:aN d=true) {bq:List Int} {mq:List (LR Int)} {wq:List (LR Bool)} (h:kX d (bD d).length bq mq wq 2) (c0:¬((mq.length:Nat):Int)=2):lR d bq mq [] wq (fun _ _ _=>False):=by
  obtain ⟨p1,p2,p3⟩:=h.part
  have KN:=h.vX
  refine ⟨p1,⟨h.wl,fun b hb=>by rw [h.wf b (by rw [h.wl];exact hb)];simp,fun b c hb hc h9=>?_,fun t ht=>by simp at ht⟩,fun k p q hk hp hq e hn=>?_,p2,p3⟩
  · rw [y3 (h.wf b (by rw [h.wl];exact hb))] at h9;cases h9
  · have r1:=p1.k8 _ (me hr hk hp).1
    have r2:=p1.k8 _ (me hr hk hq).1
    exact absurd oz hn
structure Wz (K:Nat) (wt:List (LR Bool)) (td:List (Int×Int)) (c:Nat):Prop where
  len:wt.length=2
  row:∀b,b<2→(wt.getD b ai).xs.length=K
  todo:∀b k,b<2→k<K→bx wt b k=true→(((b:Nat):Int),((k:Nat):Int))∈td
  done:∀k,k<c→bx wt 0 k=true∨bx wt 1 k=true
  tl:td.length=c
  bd:∀t:Int×Int,t∈td→(0≤t.1∧t.1<2)∧(0≤t.2∧t.2<(K:Int))
theorem Wz.start {d:ar} {K:Nat} {bq:List Int} {mq:List (LR Int)} {wq:List (LR Bool)} (h:kX d K bq mq wq 2) (h2:((mq.length:Nat):Int)=2):Wz K wq [] 0:=by
  have hl:wq.length=2:=by rw [h.wl];omega
  refine ⟨hl,fun b hb=>by rw [h.wf b oz];simp,fun b k hb hk h9=>?_,fun k hk=>by omega,rfl,fun t ht=>by simp at ht⟩
  rw [y3 (h.wf b oz)] at h9;cases h9
theorem Wz.step {K c:Nat} {wt qv:List (LR Bool)} {td:List (Int×Int)} {x:Int} (h:Wz K wt td c) (hc:c<K) (hx:x=0∨x=1) (s:tB wt x.toNat c true qv):Wz K qv (td++[(x,((c:Nat):Int))]) (c+1):=by
  refine ⟨by rw [s.len];exact h.len,fun b hb=>by rw [s.row];exact h.row b hb,fun b k hb hk h9=>?_,fun k hk=>?_,by simp [h.tl],fun t ht=>?_⟩
  · rw [s.val] at h9
    split at h9
    · rename_i e
      obtain ⟨e1,e2⟩:=e
      subst e2
      have:x=((b:Nat):Int):=by omega
      rw [this];simp
    · exact List.mem_append_left _ (h.todo b k hb hk h9)
  · rw [s.val,s.val]
    by_cases e:k=c
    · subst e
      rcases hx with rfl|rfl
      · left;rw [if_pos ⟨rfl,rfl⟩]
      · right;rw [if_pos ⟨rfl,rfl⟩]
    · rw [if_neg (fun h9=>e h9.2),if_neg (fun h9=>e h9.2)];exact h.done k oz
  · rcases List.mem_append.1 ht with h9|h9
    · exact h.bd t h9
    · rw [List.mem_singleton.1 h9];exact ⟨by simp only;omega,by simp only;omega⟩
theorem kX.YK {d:ar} (hr:aN d=true) {bq:List Int} {mq:List (LR Int)} {wq wt:List (LR Bool)} {td:List (Int×Int)} {c:Nat} (h:kX d (bD d).length bq mq wq 2) (h2:((mq.length:Nat):Int)=2) (hw:Wz (bD d).length wt td c) (hc:c=(bD d).length):lR d bq mq td wt (fun _ _ _=>False):=by
  obtain ⟨p1,p2,p3⟩:=h.part
  have KN:mq.length=2:=by omega
  refine ⟨p1,⟨by rw [hw.len,KN],fun b hb=>hw.row b oz,fun b k hb hk h9=>hw.todo b k oz hk h9,fun t ht=>by rw [KN];exact hw.bd t ht⟩,fun k p q hk hp hq e hn=>?_,p2,p3⟩
  have r1:=p1.k8 _ (me hr hk hp).1
  have r2:=p1.k8 _ (me hr hk hq).1
  have h0:=hw.done k oz
  have hv:bk bq (dl d k p)=0∧bk bq (dl d k q)=1∨bk bq (dl d k p)=1∧bk bq (dl d k q)=0:=by unfold bk;omega
  rcases hv with ⟨e1,e2⟩|⟨e1,e2⟩
  · rw [e1,e2]
    rcases h0 with h0|h0
    · exact .inl h0
    · exact .inr (.inl h0)
  · rw [e1,e2]
    rcases h0 with h0|h0
    · exact .inr (.inl h0)
    · exact .inl h0
theorem Xq {n K m m2 t t2:Nat} (h:m≤m2) (hn:m2≤n) (e:t2+m*K=t+m2*K):(n-m2)*K+t2=(n-m)*K+t:=by
  obtain ⟨a,rfl⟩:=Nat.le.dest h
  obtain ⟨b,rfl⟩:=Nat.le.dest hn
  have e1:m+a+b-(m+a)=b:=by omega
  have e2:m+a+b-m=a+b:=by omega
  rw [e1,e2,Nat.add_mul]
  rw [Nat.add_mul] at e
  omega
theorem S7 {td:List (Int×Int)} {K nb:Nat} {wt:List (LR Bool)} (h:WA K nb td wt) (hl:0<td.length):
    td=td.take (td.length-1)++[((((td.getD (td.length-1) (0,0)).1.toNat:Nat):Int),(((td.getD (td.length-1) (0,0)).2.toNat:Nat):Int))]∧0≤(td.getD (td.length-1) (0,0)).1∧0≤(td.getD (td.length-1) (0,0)).2:=by
  have hm:td.getD (td.length-1) (0,0)∈td:=au oz
  have hb:=h.bd _ hm
  refine ⟨?_,hb.1.1,hb.2.1⟩
  rw [Int.toNat_of_nonneg hb.1.1,Int.toNat_of_nonneg hb.2.1]
  have h1:=cr (l:=td) (k:=td.length-1) (0,0) oz
  rw [show td.length-1+1=td.length by omega,List.take_length] at h1
  exact h1
noncomputable def eR (d:ar):List Int:=if aN d=true then uM d else []
noncomputable def tx (d:ar):Int:=if aN d=true then ((dd (pJ d)).length:Int) else 0
theorem Ka {n i:Nat} {a:Int} (hi:i<n):(List.replicate n a).getD i 0=a:=by rw [List.getD_eq_getElem?_getD,List.getElem?_replicate,if_pos hi];rfl
structure WC (d:ar) (bl:List Int) (s:Nat) (to:List Int) (k:Nat):Prop where
  len:to.length=259
  val:∀i,i<k→to.getD i 0=dn bl (bA d (s:Int) (i:Int))
theorem WC.start (d:ar) (bl:List Int) (s:Nat):WC d bl s (List.replicate 259 0) 0:=⟨List.length_replicate,fun i hi=>by omega⟩
theorem WC.step {d:ar} {bl to:List Int} {s k:Nat} {v:Int} (h:WC d bl s to k) (hk:k<259) (hv:v=dn bl (bA d (s:Int) (k:Int))):WC d bl s (to.set k v) (k+1):=by
  refine ⟨by simp [h.len],fun i hi=>?_⟩
  rw [nj (by rw [h.len];exact hk)]
  split
  · rename_i e;subst e;exact hv
  · exact h.val i oz
structure N8 (d:ar) (bl cl:List Int) (w:Int) (k:Nat):Prop where
  len:cl.length=259
  ker:∀i j,i<259→j<259→(cl.getD i 0=cl.getD j 0↔∀s:Nat,s<k→To d d.start (s:Int)→dn bl (bA d (s:Int) (i:Int))=dn bl (bA d (s:Int) (j:Int)))
  num:(∃s:Nat,s<k∧To d d.start (s:Int))→∃z:List (Int×Int),z.length=259∧cl=bp z∧w=((dd z).length:Int)
theorem N8.start (d:ar) (bl:List Int):N8 d bl (List.replicate 259 0) 0 0:=⟨List.length_replicate,fun i j hi hj=>⟨fun _ s hs=>by omega,fun _=>by rw [Ka hi,Ka hj]⟩,fun ⟨s,hs,_⟩=>by omega⟩
theorem N8.skip {d:ar} {bl cl:List Int} {w:Int} {k:Nat} (h:N8 d bl cl w k) (hn:¬To d d.start (k:Int)):N8 d bl cl w (k+1):=by
  have key:∀s:Nat,s<k+1→To d d.start (s:Int)→s<k:=fun s hs ht=>by
    by_cases e:s=k
    · subst e;exact absurd ht hn
    · omega
  refine ⟨h.len,fun i j hi hj=>?_,fun ⟨s,hs,ht⟩=>h.num ⟨s,key s hs ht,ht⟩⟩
  rw [h.ker i j hi hj]
  exact ⟨fun h9 s hs ht=>h9 s (key s hs ht) ht,fun h9 s hs ht=>h9 s oz ht⟩
theorem N8.join {d:ar} {bl cl to:List Int} {w:Int} {k j:Nat} (h:N8 d bl cl w k) (ht:To d d.start (k:Int)) (VY:WC d bl k to j) (hj:j=259):N8 d bl (ff cl to) (kc cl to) (k+1):=by
  subst hj
  have Um:=h.len
  have htl:=VY.len
  have hl:cl.length=to.length:=by omega
  have hz:(cl.zip to).length=259:=by simp [Um,htl]
  have MX:(ff cl to).length=259:=by rw [MI hl,Um]
  have e1:ff cl to=bp (cl.zip to):=by unfold ff;rw [if_pos hl]
  refine ⟨MX,fun i j hi hj=>?_,fun _=>⟨cl.zip to,hz,e1,by unfold kc;rw [if_pos hl]⟩⟩
  have h1:=l6 (l:=cl.zip to) (i:=i) (k:=j) oz oz
  have gz:∀i,i<259→(cl.zip to)[i]?=some (cl.getD i 0,to.getD i 0):=fun i hi=>by
    rw [List.getElem?_eq_getElem oz,List.getElem_zip]
    simp [List.getD_eq_getElem?_getD,List.getElem?_eq_getElem (show i<cl.length by omega),List.getElem?_eq_getElem (show i<to.length by omega)]
  have gn:∀i,i<259→(bp (cl.zip to))[i]?=some ((ff cl to).getD i 0):=fun i hi=>by
    rw [e1]
    simp [List.getD_eq_getElem?_getD,List.getElem?_eq_getElem (show i<(bp (cl.zip to)).length by rw [←e1,MX];exact hi)]
  rw [gn i hi,gn j hj,gz i hi,gz j hj] at h1
  simp only [Option.some.injEq,Prod.mk.injEq] at h1
  rw [h1,h.ker i j hi hj,VY.val i hi,VY.val j hj]
  constructor
  · rintro ⟨a,b⟩ s hs hts
    by_cases e:s=k
    · subst e;exact b
    · exact a s oz hts
  · intro a
    exact ⟨fun s hs hts=>a s oz hts,a k oz ht⟩
theorem N8.fin {d:ar} (hr:aN d=true) {bl cl:List Int} {w:Int} {k:Nat} (hb:wm d bl) (h:N8 d bl cl w k) (hk:k=d.acc.length):cl=bp (dA d)∧w=((dd (dA d)).length:Int):=by
  subst hk
  have hs:=(bo.1 hr).1.2.2.2.2.2.2
  obtain ⟨z,hz,e1,e2⟩:=h.num ⟨d.start.toNat,by omega,by rw [Int.toNat_of_nonneg hs.1];exact .refl _⟩
  have zA:=(jJ d).len
  have hk:∀i j,i<259→j<259→(z[i]?=z[j]?↔(dA d)[i]?=(dA d)[j]?):=fun i j hi hj=>by
    have h1:=l6 (l:=z) (i:=i) (k:=j) oz oz
    rw [←e1] at h1
    have gc:∀i,i<259→cl[i]?=some (cl.getD i 0):=fun i hi=>by
      simp [List.getD_eq_getElem?_getD,List.getElem?_eq_getElem (show i<cl.length by rw [h.len];exact hi)]
    have gf:∀i,i<259→(dA d)[i]?=some ((dA d).getD i 0):=fun i hi=>by
      simp [List.getD_eq_getElem?_getD,List.getElem?_eq_getElem (show i<(dA d).length by omega)]
    rw [←h1,gc i hi,gc j hj,gf i hi,gf j hj]
    simp only [Option.some.injEq]
    rw [h.ker i j hi hj,(jJ d).kernel (wy d 259) hi hj]
    have key:∀s:Nat,s<d.acc.length→(dn bl (bA d (s:Int) (i:Int))=dn bl (bA d (s:Int) (j:Int))↔pQ d (bA d (s:Int) (i:Int)) d (bA d (s:Int) (j:Int))):=fun s hs=>
      hb _ _ (k4 hr oz oz oz) (k4 hr oz oz oz)
    exact ⟨fun a s hs ht=>(key s hs).1 (a s hs ht),fun a s hs ht=>(key s hs).2 (a s hs ht)⟩
  have h9:=yb 259 z (dA d) hz zA hk
  exact ⟨by rw [e1,h9.1],by rw [e2,h9.2]⟩
noncomputable def jP (d:ar):ar:=if aN d=true then cJ d else ⟨[],0,0,[],[]⟩
def um (d:ar):Int:=if aN d=true then 0 else 3
theorem sQ {d:ar} (hr:aN d=true):jP d=cJ d∧um d=0:=⟨by rw [jP,if_pos hr],by rw [um,if_pos hr]⟩
theorem MB {d:ar} (hr:¬aN d=true):jP d=⟨[],0,0,[],[]⟩∧um d=3:=⟨by rw [jP,if_neg hr],by rw [um,if_neg hr]⟩
def JM (m:Nat) (t:ay):Prop:=1≤t.kind∧t.kind≤5∧(t.kind≠1→t.set=Bs.zero)∧(t.kind≠3→t.b=0)∧0≤t.a∧t.a<(m:Int)∧0≤t.b∧t.b<(m:Int)
def gP (m:Nat) (s:List ay):Prop:=∀t,t∈s→JM m t
theorem gP.nil (m:Nat):gP m []:=fun t h=>by cases h
theorem gP.app {m:Nat} {s u:List ay} (h:gP m s) (h':gP m u):gP m (s++u):=fun t ht=>(List.mem_append.1 ht).elim (h t) (h' t)
theorem gP.one {m:Nat} {t:ay} (h:JM m t):gP m [t]:=fun u hu=>by rw [List.mem_singleton] at hu;rw [hu];exact h
theorem gP.at {m:Nat} {s:List ay} (h:gP m s) {i:Nat} (hi:i<s.length):JM m (s.getD i aq):=h _ (au hi)
theorem JM.emp {m:Nat} (h:0<m):JM m emp:=⟨by decide,by decide,fun _=>rfl,fun _=>rfl,by decide,by show (0:Int)<m;omega,by decide,by show (0:Int)<m;omega⟩
theorem JM.split {m:Nat} {a b:Int} (ha:0≤a∧a<m) (hb:0≤b∧b<m):JM m ⟨3,a,b,Bs.zero⟩:=⟨by simp,by simp,fun _=>rfl,fun h9=>absurd rfl h9,ha.1,ha.2,hb.1,hb.2⟩
theorem gP.dv {m:Nat} {s:List ay} (h:gP m s) (i:Nat) {v:Int} (hv:0≤v∧v<m):gP m (dv s i v):=fun t ht=>by
  by_cases hi:i<s.length
  · unfold Sx.dv at ht
    rcases List.mem_or_eq_of_mem_set ht with h1|h1
    · exact h t h1
    · obtain ⟨g1,g2,g3,g4,g5,g6,g7,g8⟩:=h.at hi
      subst h1;exact ⟨g1,g2,g3,g4,hv.1,hv.2,g7,g8⟩
  · unfold Sx.dv at ht
    rw [List.set_eq_of_length_le oz] at ht;exact h t ht
theorem gP.sj {m:Nat} {s:List ay} (h:gP m s) {i:Nat} {v:Int} (hk:(s.getD i aq).kind=3) (hv:0≤v∧v<m):gP m (sj s i v):=fun t ht=>by
  by_cases hi:i<s.length
  · unfold Sx.sj at ht
    rcases List.mem_or_eq_of_mem_set ht with h1|h1
    · exact h t h1
    · obtain ⟨g1,g2,g3,g4,g5,g6,g7,g8⟩:=h.at hi
      subst h1;exact ⟨g1,g2,g3,fun h9=>absurd hk h9,g5,g6,hv.1,hv.2⟩
  · unfold Sx.sj at ht
    rw [List.set_eq_of_length_le oz] at ht;exact h t ht
theorem eV (s:List ay) (i:Nat) (v:Int) (j:Nat):((dv s i v).getD j aq).kind=(s.getD j aq).kind:=by
  rw [bL];split
  · rename_i h;rw [h.1]
  · rfl
theorem LX (s:List ay) (i:Nat) (v:Int) (j:Nat):((sj s i v).getD j aq).kind=(s.getD j aq).kind:=by
  rw [si];split
  · rename_i h;rw [h.1]
  · rfl
theorem gP.fq {m:Nat} {v:Int} (hv:0≤v∧v<m):∀(l:List Nat) {s:List ay},gP m s→(∀i,i∈l→(s.getD i aq).kind=3)→gP m (fq s l v)
  | [],s,h,_=>h
  | i::l,s,h,hk=>by
    simp only [Sx.fq,List.foldl_cons]
    exact gP.fq hv l (h.sj (hk i List.mem_cons_self) hv) (fun j hj=>by rw [LX];exact hk j (List.mem_cons_of_mem _ hj))
def Mg (f:List ay→Pt) (z:Nat) (m:Nat):Prop:=∀s,s.length+z≤m→gP m s→gP m (f s).s
theorem KE {f:List ay→Pt} {z m:Nat} (hf:Mk f z) (hg:Mg f z m) {x:List ay×Nat} :∀k,x.1.length+k*z≤m→gP m x.1→gP m (fe f k x).1
  | 0,_,h=>h
  | k+1,hm,h=>by
    rw [Nat.succ_mul] at hm
    have ih:=KE hf hg (x:=x) k oz h
    have hl:=qf hf x k
    have hk:=hf (fe f k x).1
    simp only [fe]
    exact (hg _ oz ih).dv _ ⟨by omega,by omega⟩
theorem CI {f:List ay→Pt} {z m:Nat} (hf:Mk f z) (hg:Mg f z m) {x:List ay×Nat} :∀k,x.1.length+k*(z+1)≤m→gP m x.1→x.2<x.1.length→gP m (dr f k x).1∧∀i,i∈(dr f k x).2.2→((dr f k x).1.getD i aq).kind=3∧i<(dr f k x).1.length
  | 0,_,h,_=>⟨h,fun i hi=>by simp [dr] at hi⟩
  | k+1,hm,h,hx=>by
    rw [Nat.succ_mul] at hm
    have ih:=CI hf hg (x:=x) k oz h hx
    have hl:=l8 hf x k
    have hk:=hf (dr f k x).1
    simp only [dr]
    refine ⟨?_,fun i hi=>?_⟩
    · refine ((hg _ oz ih.1).app (gP.one (JM.split oz oz))).dv _ ⟨by omega,by omega⟩
    · rw [eV,cC]
      rcases List.mem_append.1 hi with h1|h1
      · obtain ⟨h2,h3⟩:=ih.2 i h1
        rw [b7 oz,hk.2.2.2.2.2 i oz,List.length_append]
        exact ⟨h2,by omega⟩
      · rw [List.mem_singleton] at h1;subst h1
        refine ⟨?_,by simp⟩
        rw [List.getD_eq_getElem?_getD,List.getElem?_append_right (Nat.le_refl _)];simp
theorem O7 {f:List ay→Pt} {z m:Nat} (hf:Mk f z) (hg:Mg f z m) (n:Nd):Mg (fO f n) (2+n.lo.toNat*z+(if n.hi<0 then z+1 else (n.hi-n.lo).toNat*(z+1))) m:=by
  intro s hm h
  have a0:gP m (s++[emp]):=h.app (gP.one (JM.emp oz))
  have a1:=qf hf (s++[emp],s.length) n.lo.toNat
  have a2:=nT hf (x:=(s++[emp],s.length)) (n:=s.length) (Nat.le_refl _) (by simp) n.lo.toNat
  simp only [List.length_append,List.length_singleton] at a1
  have Ue:s.length+1+n.lo.toNat*z≤m:=by split at hm<;>omega
  have a3:=KE hf hg (x:=(s++[emp],s.length)) n.lo.toNat gv a0
  unfold fO
  by_cases hh:n.hi<0
  · rw [if_pos hh] at hm ⊢
    have b1:=l8 hf (fe f n.lo.toNat (s++[emp],s.length)) 1
    have b2:=nX hf (x:=fe f n.lo.toNat (s++[emp],s.length)) (n:=0) (Nat.zero_le _) a2.2.1 1
    have b3:=CI hf hg (x:=fe f n.lo.toNat (s++[emp],s.length)) 1 oz a3 a2.2.1
    have b4:=b2.2.2.1 ((dr f 1 (fe f n.lo.toNat (s++[emp],s.length))).2.2.getD 0 0) (au oz)
    refine gP.fq ⟨by omega,by omega⟩ _ ((b3.1.app (gP.one (JM.emp oz))).dv _ ⟨by omega,by omega⟩) (fun i hi=>?_)
    rw [eV,b7 (b3.2 i hi).2];exact (b3.2 i hi).1
  · rw [if_neg hh] at hm ⊢
    have b1:=l8 hf (fe f n.lo.toNat (s++[emp],s.length)) (n.hi-n.lo).toNat
    have b3:=CI hf hg (x:=fe f n.lo.toNat (s++[emp],s.length)) (n.hi-n.lo).toNat oz a3 a2.2.1
    refine gP.fq ⟨by omega,by omega⟩ _ ((b3.1.app (gP.one (JM.emp oz))).dv _ ⟨by omega,by omega⟩) (fun i hi=>?_)
    rw [eV,b7 (b3.2 i hi).2];exact (b3.2 i hi).1
theorem qe (m:Nat):∀T:Tr,T.wk→fo T→Mg (ao T) (aQ T) m
  | .leaf n,hw,ho=>fun s hm h=>by
    simp only [ao,aQ] at hm ⊢
    have hs:=c8.set (n:=n) ho.root
    simp only [Tr.wk] at hw
    refine h.app (fun t ht=>?_)
    simp only [List.mem_cons,List.not_mem_nil,or_false] at ht
    rcases ht with rfl|rfl
    · unfold iC JM
      simp only
      refine ⟨by (repeat split)<;>omega,by (repeat split)<;>omega,fun h9=>hs (fun h8=>?_),fun _=>trivial,by omega,by omega,by omega,by omega⟩
      rw [if_neg oz,if_neg oz] at h9;exact h9 h8
    · exact JM.emp oz
  | .rep n a,hw,ho=>O7 (eX a) (qe m a hw.2 ho.rep) n
  | .bin n a b,hw,ho=>fun s hm h=>by
    have h1:=eX a s
    have h2:=eX b (ao a s).s
    simp only [ao,aQ] at hm ⊢
    by_cases hk:n.kind=5
    · rw [if_pos hk] at hm ⊢
      have g1:=qe m a hw.2.1 ho.oR s oz h
      have g2:=qe m b hw.2.2 ho.oQ _ oz g1
      exact g2.dv _ ⟨by omega,by omega⟩
    · rw [if_neg hk] at hm ⊢
      have g1:=qe m a hw.2.1 ho.oR s oz h
      have g2:=qe m b hw.2.2 ho.oQ _ oz g1
      refine ((g2.app (fun t ht=>?_)).dv _ ⟨by omega,by omega⟩).dv _ ⟨by omega,by omega⟩
      simp only [List.mem_cons,List.not_mem_nil,or_false] at ht
      rcases ht with rfl|rfl
      · exact JM.split oz oz
      · exact JM.emp oz
theorem oB.okN {l:List Nd} {st:List ay} {s0 f0:Int} (h:oB l st s0 f0 0):oU st s0 f0:=by
  rcases h with ⟨_,_,_,_,h⟩|⟨T,h1,h2,h3,⟨_,_,_,_,h⟩|⟨hz,rfl,rfl,rfl,_⟩⟩
  · omega
  · omega
  have hsu:=size_eq T h1 h3 oz
  have V7:=eX T []
  have jS:=qe (aQ T) T h1 h3 [] (by simp) (gP.nil _)
  simp only [List.length_nil,Nat.zero_add] at V7
  refine ⟨by rw [List.length_set];omega,by rw [List.length_set];omega,by rw [List.length_set];omega,fun i hi=>?_⟩
  rw [List.length_set] at hi ⊢
  by_cases e:i=(ao T []).last
  · subst e
    rw [List.getD_eq_getElem?_getD,List.getElem?_set_self hi]
    exact ⟨⟨by decide,by decide,fun _=>rfl,fun _=>rfl,fun _=>rfl,by decide,by show (0:Int)<_;omega,by decide,by show (0:Int)<_;omega⟩,fun _=>rfl,fun _=>rfl⟩
  · rw [List.getD_eq_getElem?_getD,List.getElem?_set_ne oz,←List.getD_eq_getElem?_getD]
    obtain ⟨g1,g2,g3,g4,g5,g6,g7,g8⟩:=jS.at (i:=i) hi
    rw [←V7.1] at g6 g8
    exact ⟨⟨g1,by omega,g3,g4,fun h9=>by omega,g5,g6,g7,g8⟩,fun h9=>by omega,fun h9=>by omega⟩
def Cs (t:Lv):Nat:=(if t.aV>0 then 1 else 0)+(if t.parts>0 then 1 else 0)
def yY:List Lv→Nat
  | []=>0
  | t::l=>Cs t+yY l
theorem yX:∀(a b:List Lv),yY (a++b)=yY a+yY b
  | [],b=>by simp [yY]
  | t::a,b=>by simp only [List.cons_append,yY,yX a b];omega
def Hx (b:Bool):Nat:=if b=true then 1 else 0
def Ao (p:PS) (S:List Lv) (t:Lv) (F:List Tr):Prop:=
  p.st=S++[t]∧(∀T,T∈F→T.wk∧fo T)∧p.out=bG F∧F.length=yY S+Cs t+Hx p.fH∧0≤t.parts∧0≤t.aV∧∀u,u∈S→0≤u.parts∧0≤u.aV
theorem abK {α:Type} {F:List α} (h:2≤F.length):∃G a b,F=G++[a,b]:=by
  obtain ⟨G,b,rfl⟩:=List.eq_nil_or_concat F|>.resolve_left (fun h9=>by simp [h9] at h)
  obtain ⟨G',a,rfl⟩:=List.eq_nil_or_concat G|>.resolve_left (fun h9=>by simp [h9] at h)
  exact ⟨G',a,b,by simp⟩
theorem Qi {α:Type} {F:List α} (h:1≤F.length):∃G a,F=G++[a]:=by
  obtain ⟨G,b,rfl⟩:=List.eq_nil_or_concat F|>.resolve_left (fun h9=>by simp [h9] at h)
  exact ⟨G,b,by simp⟩
theorem wD {k:Int} (h:k≠7):c8 (nd k)=true:=by unfold c8 nd;simp [h]
theorem Ll {k:Int} {a b:Tr} (hk:k≠7) (ha:fo a) (hb:fo b):fo (.bin (nd k) a b):=fun n hn=>by
  simp only [Tr.flat,List.mem_append,List.mem_singleton] at hn
  rcases hn with (h|h)|h
  · exact ha n h
  · exact hb n h
  · rw [h];exact wD hk
theorem ym {n:Nd} (h:c8 n=true):fo (.leaf n):=fun x hx=>by
  simp only [Tr.flat,List.mem_singleton] at hx;rw [hx];exact h
theorem VV {F:List Tr} {k:Int} (hk:k=5∨k=6) (hF:∀T,T∈F→T.wk∧fo T) (h2:2≤F.length):∃F',(∀T,T∈F'→T.wk∧fo T)∧bG F'=bG F++[nd k]∧F'.length+1=F.length:=by
  obtain ⟨G,a,b,rfl⟩:=abK h2
  have ha:=hF a (by simp)
  have hb:=hF b (by simp)
  refine ⟨G++[.bin (nd k) a b],fun T hT=>?_,?_,by simp⟩
  · rcases List.mem_append.1 hT with h|h
    · exact hF T (by simp [h])
    · rw [List.mem_singleton] at h;subst h
      exact ⟨⟨by unfold nd;simp only [];omega,ha.1,hb.1⟩,Ll oz ha.2 hb.2⟩
  · rw [bV,bV,cz]
    simp [bG,Tr.flat]
theorem ZK {F:List Tr} {T0:Tr} (h0:T0.wk∧fo T0) (hF:∀T,T∈F→T.wk∧fo T):(∀T,T∈F++[T0]→T.wk∧fo T)∧bG (F++[T0])=bG F++T0.flat∧(F++[T0]).length=F.length+1:=by
  refine ⟨fun T hT=>?_,by rw [bV,cz],by simp⟩
  rcases List.mem_append.1 hT with h|h
  · exact hF T h
  · rw [List.mem_singleton] at h;subst h;exact h0
theorem Ao.join {p:PS} {S:List Lv} {t:Lv} {F:List Tr} (h:Ao p S t F):∃t' F',Ao (aZ p) S t' F'∧t'.aV=t.aV∧(aZ p).fH=false:=by
  obtain ⟨h1,h2,h3,h4,h5,h6,h7⟩:=h
  unfold aZ
  by_cases hr:p.fH=true
  · rw [if_pos hr]
    have ht:ka p.st=t:=by rw [h1,xl]
    have hs:∀u,eK p.st u=S++[u]:=fun u=>by rw [h1,rh]
    rw [ht,hs]
    rw [hr] at h4
    simp only [Hx,if_true] at h4
    by_cases hp:t.parts>0
    · rw [if_pos oz]
      have hv:Cs t=(if t.aV>0 then 1 else 0)+1:=by unfold Cs;rw [if_pos hp]
      obtain ⟨F',g1,g2,g3⟩:=VV (k:=5) (.inl rfl) h2 oz
      refine ⟨_,F',⟨rfl,g1,by rw [g2,h3],?_,by simp only [];omega,h6,h7⟩,rfl,rfl⟩
      simp only [Hx,Cs,Bool.false_eq_true,if_false]
      rw [if_pos (show t.parts+1>0 by omega)];omega
    · rw [if_neg oz]
      have hv:Cs t=(if t.aV>0 then 1 else 0)+0:=by unfold Cs;rw [if_neg hp]
      refine ⟨_,F,⟨rfl,h2,h3,?_,by simp only [];omega,h6,h7⟩,rfl,rfl⟩
      simp only [Hx,Cs,Bool.false_eq_true,if_false]
      rw [if_pos (show t.parts+1>0 by omega)];omega
  · rw [if_neg hr]
    exact ⟨t,F,⟨h1,h2,h3,h4,h5,h6,h7⟩,rfl,by simpa using hr⟩
theorem Ao.leaf {p:PS} {S:List Lv} {t:Lv} {F:List Tr} {n:Nd} (h:Ao p S t F) (hk:n.kind=1∨n.kind=2∨n.kind=3∨n.kind=4) (hn:c8 n=true):∃t' F',Ao (fA p n) S t' F':=by
  obtain ⟨t',F',⟨h1,h2,h3,h4,h5,h6,h7⟩,_,hr⟩:=h.join
  obtain ⟨g1,g2,g3⟩:=ZK (T0:= .leaf n) ⟨by simpa only [Tr.wk] using hk,ym hn⟩ h2
  refine ⟨t',F'++[.leaf n],h1,g1,?_,?_,h5,h6,h7⟩
  · show (aZ p).out++[n]=_
    rw [g2,h3];rfl
  · rw [hr] at h4
    simp only [fA,Hx,if_true];simp only [Hx,Bool.false_eq_true,if_false] at h4;omega
theorem Ao.choice {p:PS} {S:List Lv} {t:Lv} {F:List Tr} (h:Ao p S t F):∃t' F',Ao (bW p) S t' F'∧t'.aV>0∧t'.parts=0∧(bW p).fH=false:=by
  obtain ⟨u,F1,⟨h1,h2,h3,h4,h5,h6,h7⟩,hc,hr⟩:=h.join
  have ht:ka (aZ p).st=u:=by rw [h1,xl]
  have hs:∀v,eK (aZ p).st v=S++[v]:=fun v=>by rw [h1,rh]
  rw [hr] at h4
  simp only [Hx,Bool.false_eq_true,if_false] at h4
  have hE:∃F2,(∀T,T∈F2→T.wk∧fo T)∧lN (aZ p).out u.parts=bG F2∧F2.length=yY S+(if u.aV>0 then 1 else 0)+1:=by
    unfold lN
    by_cases hp:u.parts=0
    · rw [if_pos hp]
      obtain ⟨g1,g2,g3⟩:=ZK (T0:= .leaf (nd 2)) ⟨by simp [Tr.wk,nd],ym (wD oz)⟩ h2
      refine ⟨F1++[.leaf (nd 2)],g1,by rw [g2,h3];rfl,?_⟩
      have hv:Cs u=(if u.aV>0 then 1 else 0)+0:=by unfold Cs;rw [if_neg (show¬u.parts>0 by omega)]
      omega
    · rw [if_neg hp]
      have hv:Cs u=(if u.aV>0 then 1 else 0)+1:=by unfold Cs;rw [if_pos (show u.parts>0 by omega)]
      exact ⟨F1,h2,h3,by omega⟩
  obtain ⟨F2,e1,e2,e3⟩:=hE
  unfold bW
  rw [ht,hs,e2]
  unfold xZ
  by_cases hp:u.aV>0
  · rw [if_pos oz]
    rw [if_pos hp] at e3
    obtain ⟨F3,g1,g2,g3⟩:=VV (k:=6) (.inr rfl) e1 oz
    refine ⟨_,F3,⟨rfl,g1,g2.symm,?_,by simp,by simp only [];omega,h7⟩,by simp only [];omega,rfl,rfl⟩
    simp only [Hx,Cs,Bool.false_eq_true,if_false]
    rw [if_pos (show u.aV+1>0 by omega)];simp;omega
  · rw [if_neg oz]
    rw [if_neg hp] at e3
    refine ⟨_,F2,⟨rfl,e1,rfl,?_,by simp,by simp only [];omega,h7⟩,by simp only [];omega,rfl,rfl⟩
    simp only [Hx,Cs,Bool.false_eq_true,if_false]
    rw [if_pos (show u.aV+1>0 by omega)];simp;omega
def pS (p:PS):Prop:=∃S t F,Ao p S t F
theorem pS.start:pS Pw:=⟨[],fV,([]:List Tr),⟨rfl,fun T hT=>(List.not_mem_nil hT).elim,rfl,rfl,by decide,by decide,fun u hu=>(List.not_mem_nil hu).elim⟩⟩
theorem pS.open {p:PS} (h:pS p):pS (lB p):=by
  obtain ⟨S,t,F,h⟩:=h
  obtain ⟨t',F',⟨h1,h2,h3,h4,h5,h6,h7⟩,_,hr⟩:=h.join
  refine ⟨S++[t'],fV,F',by unfold lB;simp only [h1],h2,h3,?_,by decide,by decide,fun u hu=>?_⟩
  · rw [hr] at h4
    have e0:Cs fV=0:=rfl
    simp only [Hx,Bool.false_eq_true,if_false] at h4
    simp only [lB,Hx,Bool.false_eq_true,if_false,yX,yY,e0]
    omega
  · rcases List.mem_append.1 hu with h|h
    · exact h7 u h
    · rw [List.mem_singleton] at h;subst h;exact ⟨h5,h6⟩
theorem pS.close {p:PS} (h:pS p) (hl:p.st.length≠1):pS (jY p):=by
  obtain ⟨S,t,F,h⟩:=h
  have KP:S≠[]:=fun h9=>hl (by rw [h.1,h9];rfl)
  obtain ⟨t',F',⟨h1,h2,h3,h4,h5,h6,h7⟩,hc,hp,hr⟩:=h.choice
  obtain ⟨S',u,rfl⟩:=Qi (F:=S) (List.length_pos_iff.2 KP)
  have hu:=h7 u (by simp)
  refine ⟨S',u,F',?_,h2,h3,?_,hu.1,hu.2,fun v hv=>h7 v (by simp [hv])⟩
  · unfold jY;simp only [h1];rw [List.length_append,List.length_singleton,Nat.add_sub_cancel,List.take_left]
  · rw [hr] at h4
    simp only [jY,Hx,if_true]
    simp only [Hx,Bool.false_eq_true,if_false,yX,yY] at h4
    have:Cs t'=1:=by unfold Cs;rw [if_pos hc,if_neg oz]
    omega
theorem pS.rep {p:PS} (h:pS p) (hr:p.fH=true) {n:Nd} (hk:n.kind=7) (hn:c8 n=true):pS ⟨p.out++[n],p.st,p.fH⟩:=by
  obtain ⟨S,t,F,h1,h2,h3,h4,h5,h6,h7⟩:=h
  have SO:=h4
  rw [hr] at SO
  simp only [Hx,if_true] at SO
  obtain ⟨G,a,rfl⟩:=Qi (F:=F) oz
  have ha:=h2 a (by simp)
  obtain ⟨g1,g2,g3⟩:=ZK (F:=G) (T0:= .rep n a) ⟨⟨hk,ha.1⟩,fun x hx=>by
    simp only [Tr.flat,List.mem_append,List.mem_singleton] at hx
    rcases hx with hx|hx
    · exact ha.2 x hx
    · rw [hx];exact hn⟩ (fun T hT=>h2 T (by simp [hT]))
  refine ⟨S,t,G++[.rep n a],h1,g1,?_,?_,h5,h6,h7⟩
  · simp only [h3];rw [g2,bV,cz];simp [Tr.flat]
  · rw [g3];simpa using h4
theorem pS.tok {p:PS} {t:Tk} (h:pS p) (he:ei p t=0):pS (gb p t):=by
  unfold gb
  rw [if_neg (by simpa using he)]
  have hl:∀n:Nd,(n.kind=1∨n.kind=2∨n.kind=3∨n.kind=4)→c8 n=true→pS (fA p n):=fun n hk hn=>by
    obtain ⟨S,u,F,h⟩:=h
    obtain ⟨u',F',h'⟩:=h.leaf hk hn
    exact ⟨S,u',F',h'⟩
  by_cases h1:t.kind=1
  · rw [if_pos h1];exact hl ⟨1,t.set,0,0⟩ (.inl rfl) (by simp [c8])
  rw [if_neg h1]
  by_cases h2:t.kind=6
  · rw [if_pos h2];exact hl (nd 3) (.inr (.inr (.inl rfl))) (wD oz)
  rw [if_neg h2]
  by_cases h3:t.kind=7
  · rw [if_pos h3];exact hl (nd 4) (.inr (.inr (.inr rfl))) (wD oz)
  rw [if_neg h3]
  by_cases h4:t.kind=2
  · rw [if_pos h4]
    obtain ⟨S,u,F,h⟩:=h
    obtain ⟨u',F',h',_⟩:=h.choice
    exact ⟨S,u',F',h'⟩
  rw [if_neg h4]
  by_cases h5:t.kind=5
  · rw [if_pos h5]
    unfold ei at he
    rw [if_neg oz,if_pos h5] at he
    have hb:¬dw t:=fun h9=>by rw [if_pos h9] at he;omega
    rw [if_neg hb] at he
    have hr:p.fH=true:=Classical.byContradiction fun h9=>by rw [if_neg h9] at he;omega
    refine h.rep hr rfl ?_
    unfold dw at hb
    unfold c8
    simp only [decide_eq_true_eq,if_true]
    exact ⟨by simp,by omega,by omega,by omega⟩
  rw [if_neg h5]
  by_cases h6:t.kind=3
  · rw [if_pos h6];exact h.open
  rw [if_neg h6]
  refine h.close (fun h9=>?_)
  unfold ei at he
  rw [if_neg oz,if_neg h5,if_neg h6] at he
  by_cases h7:t.kind=4
  · rw [if_pos h7,if_pos h9] at he;omega
  · rw [if_neg h7] at he;omega
theorem J0 {l:List Tk} :∀k,k≤l.length→(∀j,j<k→fk l j=0)→pS (dU l k)
  | 0,_,_=>pS.start
  | k+1,hk,h=>by
    rw [jf oz]
    exact (J0 k oz (fun j hj=>h j oz)).tok (h k oz)
theorem GI.tree {l:List Tk} {e:Int} {o:List Nd} {a:Int} (h:GI l e o a 0):(∃T,T.wk∧fo T∧T.flat=o)∧o.length≤512∧a=0:=by
  rcases h with ⟨k,hk,h1,h2,_,_,h3⟩|⟨h1,⟨_,_,_,h3⟩|⟨h2,⟨_,_,_,h3⟩|⟨h3,rfl,ha,_⟩⟩⟩
  · exact absurd h3.symm h2
  · omega
  · omega
  · refine ⟨?_,h3,ha⟩
    obtain ⟨S,t,F,h⟩:=J0 l.length (Nat.le_refl _) h1
    have hS:S=[]:=by
      have h9:=h.1;rw [h9] at h2;simp at h2;exact h2
    subst hS
    obtain ⟨t',F',⟨g1,g2,g3,g4,g5,g6,g7⟩,hc,hp,hr⟩:=h.choice
    rw [hr] at g4
    have hv:Cs t'=1:=by unfold Cs;rw [if_pos hc,if_neg oz]
    simp only [Hx,Bool.false_eq_true,if_false,yY] at g4
    obtain ⟨G,T,rfl⟩:=Qi (F:=F') oz
    have hG:G=[]:=by simp at g4;exact List.eq_nil_of_length_eq_zero oz
    subst hG
    have:=g2 T (by simp)
    exact ⟨T,this.1,this.2,by rw [g3];simp [bG]⟩
theorem lW.tree {p:ByteArray} {o:List Nd} {a:Int} (h:lW p o a 0):(∃T,T.wk∧fo T∧T.flat=o)∧o.length≤512∧a=0:=by
  obtain ⟨l,x,y,h1,⟨q1,_,_,q2⟩|⟨_,q⟩⟩:=h
  · exact absurd q2.symm q1
  · exact q.tree
def Vg:Bs:=⟨~~~0#64,~~~0#64,~~~0#64,~~~0#64⟩
def gO (l:List Nd):List Nd:=([⟨1,Vg,0,0⟩,⟨7,Bs.zero,0,-1⟩]++l)++[nd 5]
def zc (T:Tr):Tr:= .bin (nd 5) (.rep ⟨7,Bs.zero,0,-1⟩ (.leaf ⟨1,Vg,0,0⟩)) T
theorem lQ (l:List Nd):(gO l).length=l.length+3:=by simp [gO]
theorem qu (T:Tr):(zc T).flat=gO T.flat:=by simp [zc,gO,Tr.flat]
theorem Dp {T:Tr} (h:T.wk):(zc T).wk:=⟨.inl rfl,⟨rfl,.inl rfl⟩,h⟩
theorem Lm {T:Tr} (h:fo T):fo (zc T):=Ll oz (fun n hn=>by
  simp only [Tr.flat,List.mem_append,List.mem_singleton] at hn
  rcases hn with rfl|rfl
  · simp [c8]
  · simp [c8]) h
theorem Md:bM 0 255=Vg:=by decide+kernel
theorem uO {T:Tr} (h:T.wk) (ho:fo T):cO (gO T.flat)=decide (T.flat.length≤509):=by
  rw [Bool.eq_iff_iff,decide_eq_true_eq,←qu,fi]
  have:=lQ T.flat
  rw [←qu] at this
  exact ⟨fun h9=>by have:=h9.1;omega,fun h9=>⟨by omega,Lm ho,_,Dp h,rfl⟩⟩
def C4:ar:=⟨[],0,0,[],[]⟩
def gX (l:List Nd) (aK:Int) (d:ar) (er:Int):Prop:=
  ∃st s0 f0 e1,oB l st s0 f0 e1∧((e1≠0∧er=e1∧d=C4)∨(e1=0∧∃d1 e2,oS st s0 f0 aK d1 e2∧((e2≠0∧er=e2∧d=C4)∨(e2=0∧er=0∧d=cJ d1))))
theorem gX.uniq {l:List Nd} {aK:Int} {d d':ar} {e e':Int} (h:gX l aK d e) (h':gX l aK d' e') (hl:l.length≤512):d=d'∧e=e':=by
  obtain ⟨st,s0,f0,e1,h1,h2⟩:=h
  obtain ⟨st',s0',f0',e1',wP,wO⟩:=h'
  obtain ⟨rfl,rfl,rfl,rfl⟩:=h1.uniq wP hl
  rcases h2 with ⟨a,rfl,rfl⟩|⟨a,d1,e2,h3,h4⟩<;>rcases wO with ⟨b,rfl,rfl⟩|⟨b,d1',e2',Uq,SO⟩
  · exact ⟨rfl,rfl⟩
  · exact absurd b a
  · exact absurd a b
  · obtain ⟨rfl,rfl⟩:=h3.uniq Uq
    rcases h4 with ⟨c,rfl,rfl⟩|⟨c,rfl,rfl⟩<;>rcases SO with ⟨c',rfl,rfl⟩|⟨c',rfl,rfl⟩
    · exact ⟨rfl,rfl⟩
    · exact absurd c' c
    · exact absurd c c'
    · exact ⟨rfl,rfl⟩
theorem oS.mono {st:List ay} {s0 f0 aK vn:Int} {d:ar} (h:oS st s0 f0 aK d 0) (hm:aK≤vn):oS st s0 f0 vn d 0:=by
  obtain ⟨cls,w,os,nx,h1,⟨n,g1,g2,g3⟩,⟨a,_,b⟩|⟨_,a,_⟩⟩:=h
  · have V5:(ew (jF st) [] (ax cls w) (jZ st [s0] 0) n).1=os:=by rw [←g3]
    refine ⟨cls,w,os,nx,h1,⟨n,fun k hk=>⟨(g1 k hk).1,by have:=(g1 k hk).2;omega⟩,fun h9=>g2 ⟨h9.1,by rw [V5];omega⟩,g3⟩,.inl ⟨by omega,rfl,b⟩⟩
  · omega
theorem gX.mono {l:List Nd} {aK vn:Int} {d:ar} (h:gX l aK d 0) (hm:aK≤vn):gX l vn d 0:=by
  obtain ⟨st,s0,f0,e1,h1,⟨a,b,_⟩|⟨a,d1,e2,h3,⟨b,c,_⟩|⟨b,_,c⟩⟩⟩:=h
  · exact absurd b.symm a
  · exact absurd c.symm b
  · subst b;exact ⟨st,s0,f0,e1,h1,.inr ⟨a,d1,0,h3.mono hm,.inr ⟨rfl,rfl,c⟩⟩⟩
structure oA where
  tree:List Nd
  fw:ar
  se:ar
  bk:ar
def iY:oA:=⟨[],C4,C4,C4⟩
def eF (l:List Nd) (back:List Nd) (aK:Int) (p:oA) (er:Int):Prop:=
  ∃d1 e1,gX l aK d1 e1∧((e1≠0∧er=e1∧p=iY)∨(e1=0∧
    ∃d2 e2,gX (gO l) aK d2 e2∧((e2≠0∧er=e2∧p=iY)∨(e2=0∧
      ∃d3 e3,gX (gO back) aK d3 e3∧((e3≠0∧er=e3∧p=iY)∨(e3=0∧er=0∧p=⟨l,d1,d2,d3⟩))))))
theorem eF.e1 {l back:List Nd} {aK e1:Int} {d1:ar} (h:gX l aK d1 e1) (he:e1≠0):eF l back aK iY e1:=⟨d1,e1,h,.inl ⟨he,rfl,rfl⟩⟩
theorem eF.e2 {l back:List Nd} {aK e1 e2:Int} {d1 d2:ar} (h:gX l aK d1 e1) (he:e1=0) (h2:gX (gO l) aK d2 e2) (he2:e2≠0):eF l back aK iY e2:=⟨d1,e1,h,.inr ⟨he,d2,e2,h2,.inl ⟨he2,rfl,rfl⟩⟩⟩
theorem eF.e3 {l back:List Nd} {aK e1 e2 e3:Int} {d1 d2 d3:ar} (h:gX l aK d1 e1) (he:e1=0) (h2:gX (gO l) aK d2 e2) (he2:e2=0) (h3:gX (gO back) aK d3 e3) (he3:e3≠0):eF l back aK iY e3:=⟨d1,e1,h,.inr ⟨he,d2,e2,h2,.inr ⟨he2,d3,e3,h3,.inl ⟨he3,rfl,rfl⟩⟩⟩⟩
theorem eF.ok {l back:List Nd} {aK e1 e2 e3:Int} {d1 d2 d3:ar} (h:gX l aK d1 e1) (he:e1=0) (h2:gX (gO l) aK d2 e2) (he2:e2=0) (h3:gX (gO back) aK d3 e3) (he3:e3=0):eF l back aK ⟨l,d1,d2,d3⟩ 0:=⟨d1,e1,h,.inr ⟨he,d2,e2,h2,.inr ⟨he2,d3,e3,h3,.inr ⟨he3,rfl,rfl⟩⟩⟩⟩
theorem eF.uniq {l back:List Nd} {aK:Int} {p p':oA} {e e':Int} (h:eF l back aK p e) (h':eF l back aK p' e') (hl:l.length≤509) (hb:back.length≤509):p=p'∧e=e':=by
  have ha:=lQ l
  have hc:=lQ back
  obtain ⟨d1,e1,h1,h2⟩:=h
  obtain ⟨d1',e1',wP,wO⟩:=h'
  obtain ⟨rfl,rfl⟩:=h1.uniq wP oz
  rcases h2 with ⟨a,rfl,rfl⟩|⟨a,d2,e2,h3,h4⟩<;>rcases wO with ⟨b,rfl,rfl⟩|⟨b,d2',e2',Uq,SO⟩
  · exact ⟨rfl,rfl⟩
  · exact absurd b a
  · exact absurd a b
  obtain ⟨rfl,rfl⟩:=h3.uniq Uq oz
  rcases h4 with ⟨c,rfl,rfl⟩|⟨c,d3,e3,h5,h6⟩<;>rcases SO with ⟨c',rfl,rfl⟩|⟨c',d3',e3',h5',h6'⟩
  · exact ⟨rfl,rfl⟩
  · exact absurd c' c
  · exact absurd c c'
  obtain ⟨rfl,rfl⟩:=h5.uniq h5' oz
  rcases h6 with ⟨c,rfl,rfl⟩|⟨c,rfl,rfl⟩<;>rcases h6' with ⟨c',rfl,rfl⟩|⟨c',rfl,rfl⟩<;>first|exact ⟨rfl,rfl⟩|exact absurd c' c|exact absurd c c'
theorem eF.mono {l back:List Nd} {aK vn:Int} {p:oA} (h:eF l back aK p 0) (hm:aK≤vn):eF l back vn p 0:=by
  obtain ⟨d1,e1,h1,⟨a,b,_⟩|⟨a,d2,e2,h2,⟨b,c,_⟩|⟨b,d3,e3,h3,⟨c,q,_⟩|⟨c,_,q⟩⟩⟩⟩:=h
  · exact absurd b.symm a
  · exact absurd c.symm b
  · exact absurd q.symm c
  · subst a;subst b;subst c;subst q
    exact .ok (h1.mono hm) rfl (h2.mono hm) rfl (h3.mono hm) rfl
theorem eF.tree {l back:List Nd} {aK:Int} {p:oA} (h:eF l back aK p 0):p.tree=l:=by
  obtain ⟨d1,e1,h1,⟨a,b,h9⟩|⟨a,d2,e2,h2,⟨b,c,h9⟩|⟨b,d3,e3,h3,⟨c,q,h9⟩|⟨c,q,h9⟩⟩⟩⟩:=h
  · exact absurd b.symm a
  · exact absurd c.symm b
  · exact absurd q.symm c
  · rw [h9]
def Sm (l:List Nd) (aK:Int) (p:oA) (er:Int):Prop:=(cO l=false∧p=iY∧er=3)∨∃T:Tr,T.wk∧T.flat=l∧fo T∧eF l (bz T).flat aK p er
theorem Sm.thr {l:List Nd} {T:Tr} {aK er:Int} {p:oA} (h:Sm l aK p er) (hw:T.wk) (ho:fo T) (hf:T.flat=l) (hl:l.length≤512):eF l (bz T).flat aK p er:=by
  rcases h with ⟨h1,_⟩|⟨T',h1,h2,h3,h4⟩
  · have:=q7 hw ho (by rw [hf];exact hl);rw [hf,h1] at this;cases this
  · obtain rfl:=yJ hw h1 (hf.trans h2.symm);exact h4
def uU (s:ByteArray) (aK:Int) (p:oA) (at_ er:Int):Prop:=
  ∃l a1 e1,lW s l a1 e1∧((e1≠0∧p=iY∧at_=a1∧er=e1)∨(e1=0∧(((aK<1∨aK>1024)∧p=iY∧at_=0∧er=1)∨(1≤aK∧aK≤1024∧
    ((cO (gO l)=false∧p=iY∧at_=0∧er=4)∨(cO (gO l)=true∧at_=0∧Sm l aK p er))))))
theorem D0 {T:Tr} (h:T.flat.length≤509):(bz T).flat.length≤509:=by rw [gY];exact h
theorem uU.uniq {s:ByteArray} {aK:Int} {p p':oA} {a a' e e':Int} (h:uU s aK p a e) (h':uU s aK p' a' e'):p=p'∧a=a'∧e=e':=by
  obtain ⟨l,a1,e1,h1,h2⟩:=h
  obtain ⟨l',a1',e1',wP,wO⟩:=h'
  obtain ⟨rfl,rfl,rfl⟩:=h1.uniq wP
  rcases h2 with ⟨b,rfl,rfl,rfl⟩|⟨b,h3⟩<;>rcases wO with ⟨c,rfl,rfl,rfl⟩|⟨c,Uq⟩
  · exact ⟨rfl,rfl,rfl⟩
  · exact absurd c b
  · exact absurd b c
  subst b
  obtain ⟨⟨T,hw,ho,hf⟩,hl,_⟩:=h1.tree
  rcases h3 with ⟨b,rfl,rfl,rfl⟩|⟨b,b2,h4⟩<;>rcases Uq with ⟨c,rfl,rfl,rfl⟩|⟨c,c2,SO⟩
  · exact ⟨rfl,rfl,rfl⟩
  · omega
  · omega
  rcases h4 with ⟨q,rfl,rfl,rfl⟩|⟨q,rfl,h5⟩<;>rcases SO with ⟨r,rfl,rfl,rfl⟩|⟨r,rfl,h5'⟩
  · exact ⟨rfl,rfl,rfl⟩
  · rw [q] at r;cases r
  · rw [q] at r;cases r
  have h9:=uO hw ho
  rw [hf] at h9;rw [q] at h9
  have h9:=of_decide_eq_true h9.symm
  obtain ⟨rfl,rfl⟩:=(h5.thr hw ho hf hl).uniq (h5'.thr hw ho hf hl) h9 (D0 (by rw [hf];exact h9))
  exact ⟨rfl,rfl,rfl⟩
theorem uU.some {s:ByteArray} {aK a:Int} {p:oA} (h:uU s aK p a 0):a=0∧1≤aK∧aK≤1024∧lW s p.tree 0 0∧∃T:Tr,T.wk∧fo T∧T.flat=p.tree∧p.tree.length≤509∧eF p.tree (bz T).flat aK p 0:=by
  obtain ⟨l,a1,e1,h1,⟨b,_,_,h9⟩|⟨b,⟨_,_,_,h9⟩|⟨b1,b2,⟨_,_,_,h9⟩|⟨c,c2,h3⟩⟩⟩⟩:=h
  · exact absurd h9.symm b
  · omega
  · omega
  · subst b
    obtain ⟨⟨T,hw,ho,hf⟩,hl,rfl⟩:=h1.tree
    have h4:=h3.thr hw ho hf hl
    have ht:=h4.tree
    have h9:=uO hw ho
    rw [hf] at h9;rw [c] at h9
    have h9:=of_decide_eq_true h9.symm
    rw [ht]
    exact ⟨c2,b1,b2,h1,T,hw,ho,hf,by omega,h4⟩
def AY (at_:List Nd) (af as_ ab:ar) (bt:List Nd) (bf bs bb:ar):Bool:=decide (at_=bt)&&(ft af bf&&(ft as_ bs&&ft ab bb))
def aew (t:List Nd) (f s b:ar) (r:Bool):Prop:=∃q er,Sm t 1024 q er∧r=(decide (er=0)&&(ft q.fw f&&(ft q.se s&&ft q.bk b)))
def eG (F:Nat→Nat→Prop):Nat→Nat→Nat→Prop
  | 0,i,j=>i=j
  | k+1,i,j=>∃m,eG F k i m∧F m j
theorem eG.front {F:Nat→Nat→Prop} :∀ {k i j:Nat},eG F (k+1) i j↔∃m,F i m∧eG F k m j
  | 0,i,j=>by
    simp only [eG]
    exact ⟨fun ⟨m,e,h⟩=>⟨j,e▸h,rfl⟩,fun ⟨m,h,e⟩=>⟨i,rfl,e▸h⟩⟩
  | k+1,i,j=>by
    constructor
    · rintro ⟨m,h1,h2⟩
      obtain ⟨m',h3,h4⟩:=eG.front.1 h1
      exact ⟨m',h3,m,h4,h2⟩
    · rintro ⟨m,h1,m',h2,h3⟩
      exact ⟨m',eG.front.2 ⟨m,h1,h2⟩,h3⟩
theorem eG.add {F:Nat→Nat→Prop} {k:Nat} :∀ {c i j:Nat},eG F (k+c) i j↔∃m,eG F k i m∧eG F c m j
  | 0,i,j=>by
    simp only [Nat.add_zero,eG]
    exact ⟨fun h=>⟨j,h,rfl⟩,fun ⟨m,h,e⟩=>e▸h⟩
  | c+1,i,j=>by
    constructor
    · rintro ⟨m,h1,h2⟩
      obtain ⟨m',h3,h4⟩:=eG.add.1 h1
      exact ⟨m',h3,m,h4,h2⟩
    · rintro ⟨m,h1,m',h2,h3⟩
      exact ⟨m',eG.add.2 ⟨m,h1,h2⟩,h3⟩
def qP (t:List Nat):Tr→Nat→Nat→Prop
  | .leaf n,i,j=>if n.kind=1 then i<t.length∧j=i+1∧n.set.has (t.getD i 0)=true else if n.kind=2 then i=j else if n.kind=3 then i=0∧j=0 else i=t.length∧j=t.length
  | .rep n a,i,j=>∃k:Nat,n.lo≤(k:Int)∧(n.hi= -1∨(k:Int)≤n.hi)∧eG (qP t a) k i j
  | .bin n a b,i,j=>if n.kind=5 then∃m,qP t a i m∧qP t b m j else qP t a i j∨qP t b i j
def Ed (st:List ay) (t:List Nat) (q i q' j:Nat):Prop:=
  ((st.getD q aq).kind=1∧i<t.length∧(st.getD q aq).set.has (t.getD i 0)=true∧q'=(st.getD q aq).a.toNat∧j=i+1)∨
  ((st.getD q aq).kind=2∧q'=(st.getD q aq).a.toNat∧j=i)∨
  ((st.getD q aq).kind=3∧(q'=(st.getD q aq).a.toNat∨q'=(st.getD q aq).b.toNat)∧j=i)∨
  ((st.getD q aq).kind=4∧i=0∧q'=(st.getD q aq).a.toNat∧j=i)∨
  ((st.getD q aq).kind=5∧i=t.length∧q'=(st.getD q aq).a.toNat∧j=i)
def Ln (st:List ay) (t:List Nat) (f J:Nat):Nat→Nat→Nat→Prop
  | 0,q,i=>q=f∧i=J
  | n+1,q,i=>∃q' i',Ed st t q i q' i'∧Ln st t f J n q' i'
inductive Rc (st:List ay) (t:List Nat):Nat→Nat→Nat→Nat→Prop
  | refl (q i:Nat):Rc st t q i q i
  | step {q i q' i' SD j:Nat} :Ed st t q i q' i'→Rc st t q' i' SD j→Rc st t q i SD j
theorem Rc.trans {st:List ay} {t:List Nat} {q i q' j SD k:Nat} (h:Rc st t q i q' j) (h':Rc st t q' j SD k):Rc st t q i SD k:=by
  induction h with
  | refl=>exact h'
  | step e _ ih=>exact .step e (ih h')
theorem Rc.ln {st:List ay} {t:List Nat} {q i f J:Nat} (h:Rc st t q i f J):∃n,Ln st t f J n q i:=by
  induction h with
  | refl=>exact ⟨0,rfl,rfl⟩
  | step e _ ih=>obtain ⟨n,h⟩:=ih;exact ⟨n+1,_,_,e,h⟩
def Lx (st:List ay) (q p:Nat):Prop:=(st.getD q aq).kind=2∧(st.getD q aq).a=(p:Int)
def SS (st:List ay) (q p e:Nat):Prop:=(st.getD q aq).kind=3∧(st.getD q aq).a=(p:Int)∧(st.getD q aq).b=(e:Int)
theorem Lx.rc {st:List ay} {t:List Nat} {q p:Nat} (h:Lx st q p) (i:Nat):Rc st t q i p i:= .step (.inr (.inl ⟨h.1,by rw [h.2];rfl,rfl⟩)) (.refl _ _)
theorem SS.rc1 {st:List ay} {t:List Nat} {q p e:Nat} (h:SS st q p e) (i:Nat):Rc st t q i p i:= .step (.inr (.inr (.inl ⟨h.1,.inl (by rw [h.2.1];rfl),rfl⟩))) (.refl _ _)
theorem SS.rc2 {st:List ay} {t:List Nat} {q p e:Nat} (h:SS st q p e) (i:Nat):Rc st t q i e i:= .step (.inr (.inr (.inl ⟨h.1,.inr (by rw [h.2.2];rfl),rfl⟩))) (.refl _ _)
theorem Ln.pos {st:List ay} {t:List Nat} {f J n q i k:Nat} (hf:(st.getD f aq).kind=6) (hq:(st.getD q aq).kind≠6) (h:Ln st t f J n q i):∃n',n=n'+1∧∃q' i',Ed st t q i q' i'∧Ln st t f J n' q' i':=by
  cases n with
  | zero=>exact absurd (h.1▸hf) hq
  | succ n=>exact ⟨n,rfl,h⟩
theorem Lx.ln {st:List ay} {t:List Nat} {f J n q p i:Nat} (hf:(st.getD f aq).kind=6) (h:Lx st q p) (hl:Ln st t f J n q i):∃n',n=n'+1∧Ln st t f J n' p i:=by
  obtain ⟨n',e,q',i',hE,IE⟩:=hl.pos (k:=0) hf (by rw [h.1];decide)
  refine ⟨n',e,?_⟩
  have h1:=h.1
  rcases hE with hE|hE|hE|hE|hE
  · omega
  · rw [h.2] at hE;obtain ⟨_,e1,e2⟩:=hE;subst e1;subst e2;exact IE
  · omega
  · omega
  · omega
theorem SS.ln {st:List ay} {t:List Nat} {f J n q p e i:Nat} (hf:(st.getD f aq).kind=6) (h:SS st q p e) (hl:Ln st t f J n q i):∃n',n=n'+1∧(Ln st t f J n' p i∨Ln st t f J n' e i):=by
  obtain ⟨n',e',q',i',hE,IE⟩:=hl.pos (k:=0) hf (by rw [h.1];decide)
  refine ⟨n',e',?_⟩
  have h1:=h.1
  rcases hE with hE|hE|hE|hE|hE
  · omega
  · omega
  · rw [h.2.1,h.2.2] at hE;obtain ⟨_,e1,e2⟩:=hE;subst e2
    rcases e1 with e1|e1<;>subst e1
    · exact .inl IE
    · exact .inr IE
  · omega
  · omega
structure pR (st:List ay) (t:List Nat) (F:Nat→Nat→Prop) (p q:Nat):Prop where
  fw:∀f J,(st.getD f aq).kind=6→∀n i,Ln st t f J n p i→∃m n',n'≤n∧F i m∧Ln st t f J n' q m
  bw:∀i j,F i j→Rc st t p i q j
section
variable {st:List ay} {t:List Nat}
theorem pR.cat {A B:Nat→Nat→Prop} {p q r s:Nat} (h1:pR st t A p q) (he:Lx st q r) (h2:pR st t B r s):pR st t (fun i j=>∃m,A i m∧B m j) p s:=by
  refine ⟨fun f J hf n i hl=>?_,fun i j ⟨m,a,b⟩=>(h1.bw i m a).trans ((he.rc m).trans (h2.bw m j b))⟩
  obtain ⟨m,n1,l1,a1,vu⟩:=h1.fw f J hf n i hl
  obtain ⟨n2,e2,KP⟩:=he.ln hf vu
  obtain ⟨m3,n3,l3,a3,KO⟩:=h2.fw f J hf n2 m KP
  exact ⟨m3,n3,by omega,⟨m,a1,a3⟩,KO⟩
theorem pR.trans {A B:Nat→Nat→Prop} {p q s:Nat} (h1:pR st t A p q) (h2:pR st t B q s):pR st t (fun i j=>∃m,A i m∧B m j) p s:=by
  refine ⟨fun f J hf n i hl=>?_,fun i j ⟨m,a,b⟩=>(h1.bw i m a).trans (h2.bw m j b)⟩
  obtain ⟨m,n1,l1,a1,vu⟩:=h1.fw f J hf n i hl
  obtain ⟨m3,n3,l3,a3,KO⟩:=h2.fw f J hf n1 m vu
  exact ⟨m3,n3,by omega,⟨m,a1,a3⟩,KO⟩
theorem pR.id (q:Nat):pR st t (fun i j=>i=j) q q:=⟨fun f J hf n i hl=>⟨i,n,Nat.le_refl _,rfl,hl⟩,fun i j e=>e▸ .refl _ _⟩
theorem pR.eps {q p:Nat} (h:Lx st q p):pR st t (fun i j=>i=j) q p:=⟨fun f J hf n i hl=>by
  obtain ⟨n',e,IE⟩:=h.ln hf hl
  exact ⟨i,n',by omega,rfl,IE⟩,fun i j e=>e▸h.rc i⟩
theorem pR.congr {A B:Nat→Nat→Prop} {p q:Nat} (h:pR st t A p q) (NZ:∀i j,A i j↔B i j):pR st t B p q:=
  ⟨fun f J hf n i hl=>by
    obtain ⟨m,n',l,a,IE⟩:=h.fw f J hf n i hl
    exact ⟨m,n',l,(NZ i m).1 a,IE⟩,fun i j b=>h.bw i j ((NZ i j).2 b)⟩
theorem pR.alt {A B:Nat→Nat→Prop} {q p e p' e' s:Nat} (hs:SS st q p e) (h1:pR st t A p p') (g1:Lx st p' s) (h2:pR st t B e e') (g2:Lx st e' s):pR st t (fun i j=>A i j∨B i j) q s:=by
  refine ⟨fun f J hf n i hl=>?_,fun i j h=>?_⟩
  · obtain ⟨n1,e1,vu⟩:=hs.ln hf hl
    rcases vu with vu|vu
    · obtain ⟨m,n2,l2,a2,KP⟩:=h1.fw f J hf n1 i vu
      obtain ⟨n3,e3,KO⟩:=g1.ln hf KP
      exact ⟨m,n3,by omega,.inl a2,KO⟩
    · obtain ⟨m,n2,l2,a2,KP⟩:=h2.fw f J hf n1 i vu
      obtain ⟨n3,e3,KO⟩:=g2.ln hf KP
      exact ⟨m,n3,by omega,.inr a2,KO⟩
  · rcases h with h|h
    · exact (hs.rc1 i).trans ((h1.bw i j h).trans (g1.rc j))
    · exact (hs.rc2 i).trans ((h2.bw i j h).trans (g2.rc j))
theorem pR.opt {A B:Nat→Nat→Prop} {x q p p' s:Nat} (hx:Lx st x q) (hs:SS st q p s) (h1:pR st t A p p') (h2:pR st t B p' s):pR st t (fun i j=>i=j∨∃m,A i m∧B m j) x s:=by
  refine ⟨fun f J hf n i hl=>?_,fun i j h=>?_⟩
  · obtain ⟨n0,e0,Uf⟩:=hx.ln hf hl
    obtain ⟨n1,e1,vu⟩:=hs.ln hf Uf
    rcases vu with vu|vu
    · obtain ⟨m,n2,l2,a2,KP⟩:=h1.fw f J hf n1 i vu
      obtain ⟨m3,n3,l3,a3,KO⟩:=h2.fw f J hf n2 m KP
      exact ⟨m3,n3,by omega,.inr ⟨m,a2,a3⟩,KO⟩
    · exact ⟨i,n1,by omega,.inl rfl,vu⟩
  · refine (hx.rc i).trans ?_
    rcases h with h|⟨m,a,b⟩
    · subst h;exact hs.rc2 i
    · exact (hs.rc1 i).trans ((h1.bw i m a).trans (h2.bw m j b))
theorem pR.star {A:Nat→Nat→Prop} {x q p p' s:Nat} (hx:Lx st x q) (hs:SS st q p s) (h1:pR st t A p p') (hp:Lx st p' q):pR st t (fun i j=>∃c,eG A c i j) x s:=by
  have fwq:∀f J,(st.getD f aq).kind=6→∀n i,Ln st t f J n q i→∃m n',n'≤n∧(∃c,eG A c i m)∧Ln st t f J n' s m:=by
    intro f J hf n
    induction n using Nat.strongRecOn with
    | ind n ih=>
      intro i hl
      obtain ⟨n1,e1,vu⟩:=hs.ln hf hl
      rcases vu with vu|vu
      · obtain ⟨m,n2,l2,a2,KP⟩:=h1.fw f J hf n1 i vu
        obtain ⟨n3,e3,KO⟩:=hp.ln hf KP
        obtain ⟨m4,n4,l4,⟨c,a4⟩,hl4⟩:=ih n3 oz m KO
        exact ⟨m4,n4,by omega,⟨c+1,eG.front.2 ⟨m,a2,a4⟩⟩,hl4⟩
      · exact ⟨i,n1,by omega,⟨0,rfl⟩,vu⟩
  have bwq:∀c i j,eG A c i j→Rc st t q i s j:=by
    intro c
    induction c with
    | zero=>intro i j h;obtain rfl:i=j:=h;exact hs.rc2 i
    | succ c ih=>
      intro i j h
      obtain ⟨m,a,b⟩:=eG.front.1 h
      exact (hs.rc1 i).trans ((h1.bw i m a).trans ((hp.rc m).trans (ih m j b)))
  refine ⟨fun f J hf n i hl=>?_,fun i j ⟨c,h⟩=>(hx.rc i).trans (bwq c i j h)⟩
  obtain ⟨n0,e0,Uf⟩:=hx.ln hf hl
  obtain ⟨m,n1,l1,a1,vu⟩:=fwq f J hf n0 i Uf
  exact ⟨m,n1,by omega,a1,vu⟩
end
def VA (st u:List ay) (lo hi last:Nat):Prop:=∀j,lo≤j→j<hi→j≠last→st.getD j aq=u.getD j aq
structure Mf (t:List Nat) (f:List ay→Pt) (z:Nat) (F:Nat→Nat→Prop):Prop where
  Ik:Mk f z
  last:∀s,((f s).s.getD (f s).last aq).kind=2
  YJ:∀s st,VA st (f s).s s.length (s.length+z) (f s).last→pR st t F (f s).first (f s).last
section
variable {t:List Nat} {f:List ay→Pt} {z:Nat} {F:Nat→Nat→Prop}
theorem Cv (hf:Mf t f z F) {x:List ay×Nat} (hk:(x.1.getD x.2 aq).kind=2):∀k,((fe f k x).1.getD (fe f k x).2 aq).kind=2
  | 0=>hk
  | k+1=>by simp only [fe];rw [eV];exact hf.last _
theorem Io (hf:Mf t f z F) {x:List ay×Nat} {b:Nat} {st:List ay} (hb:b≤x.2) (hx:x.2<x.1.length) (hk:(x.1.getD x.2 aq).kind=2):
    ∀k,VA st (fe f k x).1 b (fe f k x).1.length (fe f k x).2→pR st t (eG F k) x.2 (fe f k x).2
  | 0,_=>pR.id _
  | k+1,ha=>by
    have h0:=nT hf.Ik hb hx k
    have hy:=hf.Ik (fe f k x).1
    have KQ:=Cv hf hk k
    simp only [fe] at ha ⊢
    rw [cC] at ha
    have a1:VA st (fe f k x).1 b (fe f k x).1.length (fe f k x).2:=fun j h1 h2 h3=>by
      rw [ha j h1 oz oz,bL,if_neg (fun h9=>h3 h9.1)];exact hy.2.2.2.2.2 j h2
    have e1:st.getD (fe f k x).2 aq= { (fe f k x).1.getD (fe f k x).2 aq with a:=((f (fe f k x).1).first:Nat) } :=by
      rw [ha _ oz oz oz,bL,if_pos ⟨rfl,by omega⟩,hy.2.2.2.2.2 _ h0.2.1]
    have a2:VA st (f (fe f k x).1).s (fe f k x).1.length ((fe f k x).1.length+z) (f (fe f k x).1).last:=fun j h1 h2 h3=>by
      rw [ha j oz oz h3,bL,if_neg oz]
    exact (Io hf hb hx hk k a1).cat (r:=(f (fe f k x).1).first) ⟨by rw [e1];exact KQ,by rw [e1]⟩ (hf.YJ _ _ a2)
theorem wJ (hf:Mf t f z F) {x:List ay×Nat} (hx:x.2<x.1.length) (hk:(x.1.getD x.2 aq).kind=2):∀k,((dr f k x).1.getD (dr f k x).2.1 aq).kind=2∧∀i,i∈(dr f k x).2.2→((dr f k x).1.getD i aq).kind=3∧i<(dr f k x).1.length
  | 0=>⟨hk,fun i hi=>by simp [dr] at hi⟩
  | k+1=>by
    have ih:=wJ hf hx hk k
    have hy:=hf.Ik (dr f k x).1
    simp only [dr]
    refine ⟨?_,fun i hi=>?_⟩
    · rw [eV,b7 oz];exact hf.last _
    · rw [eV,cC]
      rcases List.mem_append.1 hi with h1|h1
      · obtain ⟨h2,h3⟩:=ih.2 i h1
        rw [b7 oz,hy.2.2.2.2.2 i oz,List.length_append]
        exact ⟨h2,by omega⟩
      · rw [List.mem_singleton] at h1;subst h1
        refine ⟨?_,by simp⟩
        rw [List.getD_eq_getElem?_getD,List.getElem?_append_right (Nat.le_refl _)];simp
def Agx (st u:List ay) (b last:Nat) (S:List Nat) (e:Nat):Prop:=∀j,b≤j→j<u.length→j≠last→(j∉S→st.getD j aq=u.getD j aq)∧(j∈S→(st.getD j aq).kind=(u.getD j aq).kind∧(st.getD j aq).a=(u.getD j aq).a∧(st.getD j aq).b=(e:Int))
def HiS (st:List ay) (t:List Nat) (f:List ay→Pt) (F:Nat→Nat→Prop) (x:List ay×Nat) (e k:Nat):Prop:=
  Lx st (dr f k x).2.1 (f (dr f k x).1).s.length∧SS st (f (dr f k x).1).s.length (f (dr f k x).1).first e∧pR st t F (f (dr f k x).1).first (dr f (k+1) x).2.1
theorem QG (hf:Mf t f z F) {x:List ay×Nat} {b e:Nat} {st:List ay} (hb:b≤x.2) (hx:x.2<x.1.length) (hk:(x.1.getD x.2 aq).kind=2) (k:Nat)
    (ha:Agx st (dr f (k+1) x).1 b (dr f (k+1) x).2.1 (dr f (k+1) x).2.2 e):Agx st (dr f k x).1 b (dr f k x).2.1 (dr f k x).2.2 e∧HiS st t f F x e k:=by
  have h0:=nX hf.Ik hb hx k
  have hy:=hf.Ik (dr f k x).1
  have KQ:=wJ hf hx hk k
  unfold HiS
  simp only [dr] at ha ⊢
  have hlen:(dv ((f (dr f k x).1).s++[⟨3,((f (dr f k x).1).first:Nat),0,Bs.zero⟩]) (dr f k x).2.1 ((f (dr f k x).1).s.length:Nat)).length=(f (dr f k x).1).s.length+1:=by rw [cC];simp
  have vk:∀j,j<(dr f k x).1.length→j≠(dr f k x).2.1→(dv ((f (dr f k x).1).s++[⟨3,((f (dr f k x).1).first:Nat),0,Bs.zero⟩]) (dr f k x).2.1 ((f (dr f k x).1).s.length:Nat)).getD j aq=(dr f k x).1.getD j aq:=fun j h1 h2=>by
    rw [bL,if_neg (fun h9=>h2 h9.1),b7 oz];exact hy.2.2.2.2.2 j h1
  have hX:(dr f k x).2.1∉(dr f k x).2.2:=fun h9=>by have:=(KQ.2 _ h9).1;rw [KQ.1] at this;cases this
  have e1:st.getD (dr f k x).2.1 aq= { (dr f k x).1.getD (dr f k x).2.1 aq with a:=((f (dr f k x).1).s.length:Nat) } :=by
    rw [(ha _ h0.1 (by rw [hlen];omega) oz).1 (fun h9=>by
      rcases List.mem_append.1 h9 with h1|h1
      · exact hX h1
      · rw [List.mem_singleton] at h1;omega),bL,if_pos ⟨rfl,by rw [List.length_append];omega⟩,b7 oz,hy.2.2.2.2.2 _ h0.2.1]
  have e2:=(ha (f (dr f k x).1).s.length oz (by rw [hlen];omega) oz).2 (by simp)
  have e3:(dv ((f (dr f k x).1).s++[⟨3,((f (dr f k x).1).first:Nat),0,Bs.zero⟩]) (dr f k x).2.1 ((f (dr f k x).1).s.length:Nat)).getD (f (dr f k x).1).s.length aq=⟨3,((f (dr f k x).1).first:Nat),0,Bs.zero⟩:=by
    rw [bL,if_neg oz,List.getD_eq_getElem?_getD,List.getElem?_append_right (Nat.le_refl _)];simp
  rw [e3] at e2
  have a2:VA st (f (dr f k x).1).s (dr f k x).1.length ((dr f k x).1.length+z) (f (dr f k x).1).last:=fun j h1 h2 h3=>by
    rw [(ha j oz (by rw [hlen];omega) h3).1 (fun h9=>by
      rcases List.mem_append.1 h9 with h8|h8
      · have:=(KQ.2 _ h8).2;omega
      · rw [List.mem_singleton] at h8;omega),bL,if_neg oz,b7 oz]
  refine ⟨fun j h1 h2 h3=>⟨fun h4=>?_,fun h4=>?_⟩,⟨by rw [e1];exact KQ.1,by rw [e1]⟩,⟨e2.1,e2.2.1,e2.2.2⟩,hf.YJ _ _ a2⟩
  · rw [(ha j h1 (by rw [hlen];omega) oz).1 (fun h9=>by
      rcases List.mem_append.1 h9 with h8|h8
      · exact h4 h8
      · rw [List.mem_singleton] at h8;omega)]
    exact vk j h2 h3
  · have:=(ha j h1 (by rw [hlen];omega) oz).2 (List.mem_append_left _ h4)
    rw [vk j h2 h3] at this;exact this
theorem IG (hf:Mf t f z F) {x:List ay×Nat} {b e:Nat} {st:List ay} (hb:b≤x.2) (hx:x.2<x.1.length) (hk:(x.1.getD x.2 aq).kind=2):∀D,
    Agx st (dr f D x).1 b (dr f D x).2.1 (dr f D x).2.2 e→Agx st x.1 b x.2 [] e∧∀k,k<D→HiS st t f F x e k
  | 0,ha=>⟨ha,fun k hk=>by omega⟩
  | D+1,ha=>by
    obtain ⟨h1,h2⟩:=QG hf hb hx hk D ha
    obtain ⟨h3,h4⟩:=IG hf hb hx hk D h1
    exact ⟨h3,fun k hk9=>by
      rcases Nat.lt_or_ge k D with h|h
      · exact h4 k h
      · obtain rfl:k=D:=by omega
        exact h2⟩
theorem QH {x:List ay×Nat} {e D:Nat} {st:List ay} (h:∀k,k<D→HiS st t f F x e k) (hE:Lx st (dr f D x).2.1 e):∀c k,k+c=D→pR st t (fun i j=>∃m:Nat,m≤c∧eG F m i j) (dr f k x).2.1 e
  | 0,k,hk=>by
    obtain rfl:k=D:=by omega
    refine (pR.eps hE).congr fun i j=>⟨fun h9=>⟨0,Nat.le_refl _,h9⟩,fun ⟨m,h1,h2⟩=>?_⟩
    obtain rfl:m=0:=by omega
    exact h2
  | c+1,k,hk=>by
    obtain ⟨h1,h2,h3⟩:=h k oz
    have ih:=QH h hE c (k+1) oz
    refine (pR.opt h1 h2 h3 ih).congr fun i j=>⟨fun h9=>?_,fun ⟨m,h4,h5⟩=>?_⟩
    · rcases h9 with h9|⟨m,a,n,hn,b⟩
      · exact ⟨0,by omega,h9⟩
      · exact ⟨n+1,by omega,eG.front.2 ⟨m,a,b⟩⟩
    · cases m with
      | zero=>exact .inl h5
      | succ m=>
        obtain ⟨u,a,b⟩:=eG.front.1 h5
        exact .inr ⟨u,a,m,by omega,b⟩
theorem xA {v:Int} :∀(l:List Nat) (s:List ay) (j:Nat),j∈l→j<s.length→(fq s l v).getD j aq= { s.getD j aq with b:=v }
  | i::l,s,j,h,hj=>by
    simp only [fq,List.foldl_cons]
    show (fq (sj s i v) l v).getD j aq=_
    by_cases hl:j∈l
    · rw [xA l _ j hl (by rw [Ej];exact hj),si]
      split
      · rename_i h9;rw [h9.1]
      · rfl
    · rw [fG _ _ _ _ hl,si]
      rcases List.mem_cons.1 h with h1|h1
      · subst h1;rw [if_pos ⟨rfl,hj⟩]
      · exact absurd h1 hl
theorem Tx (hf:Mf t f z F) (n:Nd) (hn:0≤n.lo∧n.lo≤32∧(n.hi= -1∨n.lo≤n.hi∧n.hi≤32)):
    Mf t (fO f n) (2+n.lo.toNat*z+(if n.hi<0 then z+1 else (n.hi-n.lo).toNat*(z+1))) (fun i j=>∃k:Nat,n.lo≤(k:Int)∧(n.hi= -1∨(k:Int)≤n.hi)∧eG F k i j):=by
  refine ⟨Kb hf.Ik n,fun s=>?_,fun s st ha=>?_⟩
  · have b0:=wJ hf (x:=fe f n.lo.toNat (s++[emp],s.length)) (nT hf.Ik (x:=(s++[emp],s.length)) (n:=s.length) (Nat.le_refl _) (by simp) n.lo.toNat).2.1 (Cv hf (x:=(s++[emp],s.length)) (by simp [List.getD_eq_getElem?_getD,emp]) n.lo.toNat)
    unfold fO
    by_cases hh:n.hi<0
    · rw [if_pos hh]
      simp only
      rw [fG _ _ _ _ (fun h9=>by have:=((b0 1).2 _ h9).2;omega),eV,List.getD_eq_getElem?_getD,List.getElem?_append_right (Nat.le_refl _)];simp [emp]
    · rw [if_neg hh]
      simp only
      rw [fG _ _ _ _ (fun h9=>by have:=((b0 _).2 _ h9).2;omega),eV,List.getD_eq_getElem?_getD,List.getElem?_append_right (Nat.le_refl _)];simp [emp]
  · have k0:(((s++[emp]:List ay),s.length).1.getD ((s++[emp]:List ay),s.length).2 aq).kind=2:=by simp [List.getD_eq_getElem?_getD,emp]
    have o1:=nT hf.Ik (x:=(s++[emp],s.length)) (n:=s.length) (Nat.le_refl _) (by simp) n.lo.toNat
    have k1:=Cv hf k0 n.lo.toNat
    have b0:=wJ hf o1.2.1 k1
    have b1:=nX hf.Ik (x:=fe f n.lo.toNat (s++[emp],s.length)) (n:=s.length) o1.1 o1.2.1
    have l0:=qf hf.Ik (s++[emp],s.length) n.lo.toNat
    have l1:=l8 hf.Ik (fe f n.lo.toNat (s++[emp],s.length))
    simp only [List.length_append,List.length_singleton] at l0
    unfold fO at ha ⊢
    by_cases hh:n.hi<0
    · rw [if_pos hh] at ha ⊢
      rw [if_pos hh] at ha
      simp only at ha ⊢
      have hlr:=l1 1
      have KW:=b1 1
      have GX:=b0 1
      have hX:(dr f 1 (fe f n.lo.toNat (s++[emp],s.length))).2.1∉(dr f 1 (fe f n.lo.toNat (s++[emp],s.length))).2.2:=fun h9=>by have:=(GX.2 _ h9).1;rw [GX.1] at this;cases this
      have gx:Agx st (dr f 1 (fe f n.lo.toNat (s++[emp],s.length))).1 s.length (dr f 1 (fe f n.lo.toNat (s++[emp],s.length))).2.1 (dr f 1 (fe f n.lo.toNat (s++[emp],s.length))).2.2 (dr f 1 (fe f n.lo.toNat (s++[emp],s.length))).1.length:=fun j h1 h2 h3=>⟨fun h4=>by
          rw [ha j h1 oz oz,fG _ _ _ _ h4,bL,if_neg (fun h9=>h3 h9.1),b7 h2],fun h4=>by
          rw [ha j h1 oz oz,xA _ _ _ h4 (by rw [cC,List.length_append];omega),bL,if_neg (fun h9=>h3 h9.1),b7 h2]
          exact ⟨rfl,rfl,rfl⟩⟩
      obtain ⟨g1,g2⟩:=IG hf o1.1 o1.2.1 k1 1 gx
      have eL:st.getD (dr f 1 (fe f n.lo.toNat (s++[emp],s.length))).2.1 aq= { (dr f 1 (fe f n.lo.toNat (s++[emp],s.length))).1.getD (dr f 1 (fe f n.lo.toNat (s++[emp],s.length))).2.1 aq with a:=((dr f 1 (fe f n.lo.toNat (s++[emp],s.length))).2.2.getD 0 0:Nat) } :=by
        rw [ha _ KW.1 oz oz,fG _ _ _ _ hX,bL,if_pos ⟨rfl,by rw [List.length_append];omega⟩,b7 KW.2.1]
      have hP:Lx st (dr f 1 (fe f n.lo.toNat (s++[emp],s.length))).2.1 (f (fe f n.lo.toNat (s++[emp],s.length)).1).s.length:=⟨by rw [eL];exact GX.1,by rw [eL];simp [dr]⟩
      obtain ⟨q1,q2,q3⟩:=g2 0 oz
      have DG:=Io hf (b:=s.length) (Nat.le_refl _) (by simp) k0 n.lo.toNat (st:=st) (fun j h1 h2 h3=>(g1 j h1 h2 h3).1 (by simp))
      refine (DG.trans (pR.star q1 q2 q3 hP)).congr fun i j=>⟨fun ⟨m,h1,c,h2⟩=>⟨n.lo.toNat+c,by omega,.inl oz,eG.add.2 ⟨m,h1,h2⟩⟩,fun ⟨k,h1,_,h2⟩=>?_⟩
      rw [show k=n.lo.toNat+(k-n.lo.toNat) by omega] at h2
      obtain ⟨m,h3,h4⟩:=eG.add.1 h2
      exact ⟨m,h3,_,h4⟩
    · rw [if_neg hh] at ha ⊢
      rw [if_neg hh] at ha
      simp only at ha ⊢
      have hlr:=l1 (n.hi-n.lo).toNat
      have KW:=b1 (n.hi-n.lo).toNat
      have GX:=b0 (n.hi-n.lo).toNat
      have hX:(dr f (n.hi-n.lo).toNat (fe f n.lo.toNat (s++[emp],s.length))).2.1∉(dr f (n.hi-n.lo).toNat (fe f n.lo.toNat (s++[emp],s.length))).2.2:=fun h9=>by have:=(GX.2 _ h9).1;rw [GX.1] at this;cases this
      have gx:Agx st (dr f (n.hi-n.lo).toNat (fe f n.lo.toNat (s++[emp],s.length))).1 s.length (dr f (n.hi-n.lo).toNat (fe f n.lo.toNat (s++[emp],s.length))).2.1 (dr f (n.hi-n.lo).toNat (fe f n.lo.toNat (s++[emp],s.length))).2.2 (dr f (n.hi-n.lo).toNat (fe f n.lo.toNat (s++[emp],s.length))).1.length:=fun j h1 h2 h3=>⟨fun h4=>by
          rw [ha j h1 oz oz,fG _ _ _ _ h4,bL,if_neg (fun h9=>h3 h9.1),b7 h2],fun h4=>by
          rw [ha j h1 oz oz,xA _ _ _ h4 (by rw [cC,List.length_append];omega),bL,if_neg (fun h9=>h3 h9.1),b7 h2]
          exact ⟨rfl,rfl,rfl⟩⟩
      obtain ⟨g1,g2⟩:=IG hf o1.1 o1.2.1 k1 (n.hi-n.lo).toNat gx
      have eL:st.getD (dr f (n.hi-n.lo).toNat (fe f n.lo.toNat (s++[emp],s.length))).2.1 aq= { (dr f (n.hi-n.lo).toNat (fe f n.lo.toNat (s++[emp],s.length))).1.getD (dr f (n.hi-n.lo).toNat (fe f n.lo.toNat (s++[emp],s.length))).2.1 aq with a:=((dr f (n.hi-n.lo).toNat (fe f n.lo.toNat (s++[emp],s.length))).1.length:Nat) } :=by
        rw [ha _ KW.1 oz oz,fG _ _ _ _ hX,bL,if_pos ⟨rfl,by rw [List.length_append];omega⟩,b7 KW.2.1]
      have DG:=Io hf (b:=s.length) (Nat.le_refl _) (by simp) k0 n.lo.toNat (st:=st) (fun j h1 h2 h3=>(g1 j h1 h2 h3).1 (by simp))
      have M0:=QH g2 ⟨by rw [eL];exact GX.1,by rw [eL]⟩ (n.hi-n.lo).toNat 0 oz
      refine (DG.trans M0).congr fun i j=>⟨fun ⟨m,h1,c,hc,h2⟩=>⟨n.lo.toNat+c,by omega,.inr oz,eG.add.2 ⟨m,h1,h2⟩⟩,fun ⟨k,h1,tK,h2⟩=>?_⟩
      rw [show k=n.lo.toNat+(k-n.lo.toNat) by omega] at h2
      obtain ⟨m,h3,h4⟩:=eG.add.1 h2
      exact ⟨m,h3,_,by omega,h4⟩
end
theorem Co (t:List Nat):∀T:Tr,T.wk→fo T→Mf t (ao T) (aQ T) (qP t T)
  | .leaf n,hw,ho=>by
    refine ⟨eX (.leaf n),fun s=>by simp [ao,List.getD_eq_getElem?_getD,emp],fun s st ha=>?_⟩
    simp only [ao,aQ] at ha ⊢
    have e1:st.getD s.length aq=iC n (s.length+1):=by
      rw [ha s.length (Nat.le_refl _) oz oz];simp [List.getD_eq_getElem?_getD]
    simp only [Tr.wk] at hw
    have ek:(st.getD s.length aq).kind=if n.kind=3 then 4 else if n.kind=4 then 5 else n.kind:=by rw [e1];rfl
    have ea:(st.getD s.length aq).a=(s.length:Int)+1:=by rw [e1];rfl
    have es:(st.getD s.length aq).set=n.set:=by rw [e1];rfl
    have eat:(st.getD s.length aq).a.toNat=s.length+1:=by omega
    refine ⟨fun f J hf m i hl=>?_,fun i j h=>?_⟩
    · obtain ⟨m',e,q',i',hE,IE⟩:=hl.pos (k:=0) hf (by rw [ek];split<;>(try split)<;>omega)
      refine ⟨i',m',by omega,?_,?_⟩
      · unfold qP
        unfold Ed at hE
        rw [ek,ea,es] at hE
        rcases hw with h|h|h|h<;>simp only [h] at hE ⊢ <;>simp at hE ⊢
        · exact ⟨hE.1,hE.2.2.2,hE.2.1⟩
        · omega
        · omega
        · omega
      · have:q'=s.length+1:=by
          unfold Ed at hE
          rw [ek,eat] at hE
          rcases hw with h|h|h|h<;>simp only [h] at hE<;>simp at hE<;>omega
        subst this;exact IE
    · refine .step (q':=s.length+1) (i':=j) ?_ (.refl _ _)
      unfold qP at h
      unfold Ed
      rw [ek,eat,es]
      rcases hw with h9|h9|h9|h9<;>simp only [h9] at h ⊢ <;>simp at h ⊢
      · exact ⟨h.1,h.2.2,h.2.1⟩
      · omega
      · omega
      · omega
  | .rep n a,hw,ho=>Tx (Co t a hw.2 ho.rep) n (c8.rep (n:=n) ho.root hw.1)
  | .bin n a b,hw,ho=>by
    have ma:=Co t a hw.2.1 ho.oR
    have mb:=Co t b hw.2.2 ho.oQ
    refine ⟨eX (.bin n a b),fun s=>?_,fun s st ha=>?_⟩
    · have h1:=ma.Ik s
      have h2:=mb.Ik (ao a s).s
      simp only [ao]
      split
      · simp only;rw [eV];exact mb.last _
      · simp only;rw [eV,eV,List.getD_eq_getElem?_getD,List.getElem?_append_right oz];simp [emp]
    · have h1:=ma.Ik s
      have h2:=mb.Ik (ao a s).s
      have Wa:=ma.last s
      simp only [ao,aQ] at ha ⊢
      by_cases hk:n.kind=5
      · rw [if_pos hk] at ha ⊢
        rw [if_pos hk] at ha
        simp only at ha ⊢
        have a1:VA st (ao a s).s s.length (s.length+aQ a) (ao a s).last:=fun j g1 g2 g3=>by
          rw [ha j g1 oz oz,bL,if_neg (fun h9=>g3 h9.1)];exact h2.2.2.2.2.2 j oz
        have a2:VA st (ao b (ao a s).s).s (ao a s).s.length ((ao a s).s.length+aQ b) (ao b (ao a s).s).last:=fun j g1 g2 g3=>by
          rw [ha j oz oz g3,bL,if_neg oz]
        have e1:st.getD (ao a s).last aq= { (ao a s).s.getD (ao a s).last aq with a:=((ao b (ao a s).s).first:Nat) } :=by
          rw [ha _ oz oz oz,bL,if_pos ⟨rfl,by omega⟩,h2.2.2.2.2.2 _ oz]
        refine ((ma.YJ s st a1).cat ⟨by rw [e1];exact Wa,by rw [e1]⟩ (mb.YJ _ st a2)).congr fun i j=>?_
        simp only [qP];rw [if_pos hk]
      · rw [if_neg hk] at ha ⊢
        rw [if_neg hk] at ha
        simp only at ha ⊢
        have hlb:=mb.last (ao a s).s
        have a1:VA st (ao a s).s s.length (s.length+aQ a) (ao a s).last:=fun j g1 g2 g3=>by
          rw [ha j g1 oz oz,bL,if_neg oz,bL,if_neg (fun h9=>g3 h9.1),b7 oz];exact h2.2.2.2.2.2 j oz
        have a2:VA st (ao b (ao a s).s).s (ao a s).s.length ((ao a s).s.length+aQ b) (ao b (ao a s).s).last:=fun j g1 g2 g3=>by
          rw [ha j oz oz oz,bL,if_neg (fun h9=>g3 h9.1),bL,if_neg oz,b7 oz]
        have e1:st.getD (ao a s).last aq= { (ao a s).s.getD (ao a s).last aq with a:=((((ao b (ao a s).s).s.length:Nat):Int)+1) } :=by
          rw [ha _ oz oz oz,bL,if_neg oz,bL,if_pos ⟨rfl,by rw [List.length_append];omega⟩,b7 oz,h2.2.2.2.2.2 _ oz]
        have e2:st.getD (ao b (ao a s).s).last aq= { (ao b (ao a s).s).s.getD (ao b (ao a s).s).last aq with a:=((((ao b (ao a s).s).s.length:Nat):Int)+1) } :=by
          rw [ha _ oz oz oz,bL,if_pos ⟨rfl,by rw [cC,List.length_append];omega⟩,bL,if_neg oz,b7 oz]
        have e3:st.getD (ao b (ao a s).s).s.length aq=⟨3,((ao a s).first:Nat),((ao b (ao a s).s).first:Nat),Bs.zero⟩:=by
          rw [ha _ oz oz oz,bL,if_neg oz,bL,if_neg oz,List.getD_eq_getElem?_getD,List.getElem?_append_right (Nat.le_refl _)];simp
        refine (pR.alt (q:=(ao b (ao a s).s).s.length) (s:=(ao b (ao a s).s).s.length+1) ⟨by rw [e3],by rw [e3],by rw [e3]⟩ (ma.YJ s st a1) ⟨by rw [e1];exact Wa,by rw [e1];rfl⟩ (mb.YJ _ st a2) ⟨by rw [e2];exact hlb,by rw [e2];rfl⟩).congr fun i j=>?_
        simp only [qP];rw [if_neg hk]
theorem Ve {l:List Nd} {st:List ay} {s0 f0:Int} {T:Tr} (h:oB l st s0 f0 0) (hw:T.wk) (hf:T.flat=l) (t:List Nat) (i J:Nat):Rc st t s0.toNat i f0.toNat J↔qP t T i J:=by
  rcases h with ⟨_,_,_,_,h⟩|⟨T',h1,h2,h3,⟨_,_,_,_,h⟩|⟨hz,rfl,rfl,rfl,_⟩⟩
  · omega
  · omega
  obtain rfl:=yJ hw h1 (hf.trans h2.symm)
  have hm:=Co t T hw h3
  have V7:=eX T []
  simp only [List.length_nil,Nat.zero_add] at V7
  have hF:=hm.YJ [] ((ao T []).s.set (ao T []).last n8) (fun j _ _ h9=>by
    rw [List.getD_eq_getElem?_getD,List.getElem?_set_ne oz,←List.getD_eq_getElem?_getD])
  have e6:(((ao T []).s.set (ao T []).last n8).getD (ao T []).last aq).kind=6:=by
    rw [List.getD_eq_getElem?_getD,List.getElem?_set_self oz];rfl
  simp only [Int.toNat_natCast]
  refine ⟨fun h=>?_,fun h=>hF.bw i J h⟩
  obtain ⟨n,hn⟩:=h.ln
  obtain ⟨m,n',_,a,hl⟩:=hF.fw _ J e6 n i hn
  cases n' with
  | zero=>rw [←hl.2];exact a
  | succ n'=>
    obtain ⟨q',i',hE,_⟩:=hl
    unfold Ed at hE
    rw [e6] at hE
    exfalso;omega
def AV (t:List Nat) (p:Nat):Int:=if t.length=0 then 258 else if p=0 then 256 else if p=t.length then 257 else 0
inductive Nr (st:List ay) (sym:Int):Nat→Nat→Prop
  | refl (q:Nat):Nr st sym q q
  | step {q q' SD:Nat} :Nr st sym q q'→((SD:Nat):Int)∈vV st sym (q':Int)→Nr st sym q SD
theorem Nr.trans {st:List ay} {sym:Int} {a b c:Nat} (h:Nr st sym a b) (h':Nr st sym b c):Nr st sym a c:=by
  induction h' with
  | refl=>exact h
  | step _ e ih=>exact .step ih e
theorem ti {st:List ay} {s0 f0 sym:Int} {fr:List Int} (hN:oU st s0 f0) (hr:∀t,t∈fr→0≤t∧t<(st.length:Int)):oT st fr sym (jZ st fr sym):=by
  classical
  have key:∃o,oT st fr sym o:=by
    refine ⟨(List.range st.length).map fun q=>decide (∃x:Nat,(x:Int)∈fr∧Nr st sym x q),?_⟩
    have hm:∀q:Nat,((List.range st.length).map fun q=>decide (∃x:Nat,(x:Int)∈fr∧Nr st sym x q)).getD q false=true↔q<st.length∧∃x:Nat,(x:Int)∈fr∧Nr st sym x q:=fun q=>by
      rw [List.getD_eq_getElem?_getD,List.getElem?_map]
      rcases Nat.lt_or_ge q st.length with h|h
      · rw [List.getElem?_range h];simp [h]
      · rw [List.getElem?_eq_none (by simpa using h)];simp;omega
    refine ⟨by simp,fun t ht=>?_,fun s hs t ht=>?_,fun Q h1 h2 s hs=>?_⟩
    · have:=hr t ht
      rw [hm];exact ⟨by omega,t.toNat,by rw [show ((t.toNat:Nat):Int)=t by omega];exact ht,.refl _⟩
    · obtain ⟨g1,x,g2,g3⟩:=(hm s).1 hs
      have:=kN hN (x:=(s:Int)) ⟨by omega,by omega⟩ t ht
      rw [hm];exact ⟨by omega,x,g2,.step g3 (by rw [show ((t.toNat:Nat):Int)=t by omega];exact ht)⟩
    · obtain ⟨_,x,g2,g3⟩:=(hm s).1 hs
      clear hs
      induction g3 with
      | refl=>exact h1 _ g2
      | @step a b g e ih=>
        refine h2 _ (ih ?_) _ e
        refine Nat.lt_of_not_le fun h9=>?_
        unfold vV at e
        rw [Int.toNat_natCast,List.getD_eq_getElem?_getD,List.getElem?_eq_none h9] at e
        simp [aq,goN] at e
  unfold jZ
  rw [dif_pos key]
  exact Classical.choose_spec key
theorem C5 {st:List ay} {s0 f0 sym:Int} {fr:List Int} (hN:oU st s0 f0) (hr:∀t,t∈fr→0≤t∧t<(st.length:Int)) (q:Nat):(jZ st fr sym).getD q false=true↔∃x:Nat,(x:Int)∈fr∧Nr st sym x q:=by
  have hc:=ti (sym:=sym) hN hr
  constructor
  · intro h
    have:=hc.min (fun s=>0≤s∧∃x:Nat,(x:Int)∈fr∧Nr st sym x s.toNat) (fun t ht=>⟨(hr t ht).1,t.toNat,by rw [show ((t.toNat:Nat):Int)=t by have:=hr t ht;omega];exact ht,.refl _⟩) (fun s hs t ht=>?_) q h
    · simpa using this.2
    · obtain ⟨h0,x,g1,g2⟩:=hs
      have e:((s.toNat:Nat):Int)=s:=by omega
      have cX:s.toNat<st.length:=by
        refine Nat.lt_of_not_le fun h9=>?_
        unfold vV at ht
        rw [List.getD_eq_getElem?_getD,List.getElem?_eq_none h9] at ht
        simp [aq,goN] at ht
      have:=kN hN (x:=s) ⟨by omega,by omega⟩ t ht
      exact ⟨this.1,x,g1,.step g2 (by rw [e,show ((t.toNat:Nat):Int)=t by omega];exact ht)⟩
  · rintro ⟨x,g1,g2⟩
    induction g2 with
    | refl=>have:=hc.init _ g1;simpa using this
    | step a e ih=>have:=hc.jZ _ ih _ e;simpa using this
section
variable {st:List ay} {s0 f0:Int} {t:List Nat}
theorem Ed.le {q i q' j:Nat} (h:Ed st t q i q' j):i≤j:=by unfold Ed at h;omega
theorem Rc.le {q i q' j:Nat} (h:Rc st t q i q' j):i≤j:=by
  induction h with
  | refl=>exact Nat.le_refl _
  | step e _ ih=>exact Nat.le_trans e.le ih
def ByE (st:List ay) (t:List Nat) (q i q':Nat):Prop:=(st.getD q aq).kind=1∧i<t.length∧(st.getD q aq).set.has (t.getD i 0)=true∧q'=(st.getD q aq).a.toNat
theorem Rc.adN {x i y k p:Nat} (h:Rc st t x i y k) (hi:i≤p) (hk:p<k):∃q1 q2,Rc st t x i q1 p∧ByE st t q1 p q2∧Rc st t q2 (p+1) y k:=by
  induction h with
  | refl=>omega
  | @step q i q' i' SD j e h ih=>
    by_cases hp:i'≤p
    · obtain ⟨q1,q2,a,b,c⟩:=ih hp hk
      exact ⟨q1,q2,.step e a,b,c⟩
    · unfold Ed at e
      have e2:(st.getD q aq).kind=1∧i<t.length∧(st.getD q aq).set.has (t.getD i 0)=true∧q'=(st.getD q aq).a.toNat∧i'=i+1:=by
        rcases e with e|e|e|e|e
        · exact e
        · omega
        · omega
        · omega
        · omega
      obtain ⟨e3,e4,e5,e6,e7⟩:=e2
      obtain rfl:i=p:=by omega
      subst e7
      exact ⟨q,q',.refl _ _,⟨e3,e4,e5,e6⟩,h⟩
theorem PR (hN:oU st s0 f0) {q q' p:Nat} (hp:p≤t.length) (h:Ed st t q p q' p):((q':Nat):Int)∈vV st (AV t p) (q:Int):=by
  have hq:q<st.length:=by
    refine Nat.lt_of_not_le fun h9=>?_
    unfold Ed at h
    rw [List.getD_eq_getElem?_getD,List.getElem?_eq_none h9] at h
    simp [aq] at h
  obtain ⟨_,_,_,_,_,g1,g2,g3,g4⟩:=(hN.IQ q hq).1
  have ea:(((st.getD q aq).a.toNat:Nat):Int)=(st.getD q aq).a:=by omega
  have eb:(((st.getD q aq).b.toNat:Nat):Int)=(st.getD q aq).b:=by omega
  unfold Ed at h
  unfold vV
  rw [Int.toNat_natCast]
  rcases h with h|⟨h,e,_⟩|⟨h,e,_⟩|⟨h,h1,e,_⟩|⟨h,h1,e,_⟩
  · omega
  · rw [if_neg oz,if_pos (by unfold goN;rw [decide_eq_true_eq];exact .inl h),e,ea];simp
  · rw [if_pos h];rcases e with e|e<;>rw [e]
    · rw [ea];simp
    · rw [eb];simp
  · have hg:goN (AV t p) (st.getD q aq)=true:=by
      unfold goN;rw [decide_eq_true_eq];refine .inr (.inl ⟨h,?_⟩);unfold AV;rw [h1];by_cases h0:t.length=0<;>simp [h0]
    rw [if_neg oz,if_pos hg,e,ea];simp
  · have hg:goN (AV t p) (st.getD q aq)=true:=by
      unfold goN;rw [decide_eq_true_eq];refine .inr (.inr ⟨h,?_⟩);unfold AV;rw [h1];by_cases h0:t.length=0<;>simp [h0]
    rw [if_neg oz,if_pos hg,e,ea];simp
theorem Q4 (hN:oU st s0 f0) {q q' p:Nat} (h:((q':Nat):Int)∈vV st (AV t p) (q:Int)) (hp:p≤t.length):Ed st t q p q' p:=by
  unfold vV at h
  rw [Int.toNat_natCast] at h
  unfold Ed
  split at h
  · rename_i hk
    simp only [List.mem_cons,List.not_mem_nil,or_false] at h
    refine .inr (.inr (.inl ⟨hk,?_,rfl⟩));omega
  · split at h
    · rename_i hk hg
      simp only [List.mem_singleton] at h
      unfold goN at hg
      rw [decide_eq_true_eq] at hg
      unfold AV at hg
      by_cases h0:t.length=0
      · rw [if_pos h0] at hg
        rcases hg with hg|⟨hg,_⟩|⟨hg,_⟩
        · exact .inr (.inl ⟨hg,by omega,rfl⟩)
        · exact .inr (.inr (.inr (.inl ⟨hg,by omega,by omega,rfl⟩)))
        · exact .inr (.inr (.inr (.inr ⟨hg,by omega,by omega,rfl⟩)))
      · rw [if_neg h0] at hg
        by_cases hp0:p=0
        · rw [if_pos hp0] at hg
          rcases hg with hg|⟨hg,_⟩|⟨_,hg⟩
          · exact .inr (.inl ⟨hg,by omega,rfl⟩)
          · exact .inr (.inr (.inr (.inl ⟨hg,by omega,by omega,rfl⟩)))
          · omega
        · rw [if_neg hp0] at hg
          by_cases V4:p=t.length
          · rw [if_pos V4] at hg
            rcases hg with hg|⟨_,hg⟩|⟨hg,_⟩
            · exact .inr (.inl ⟨hg,by omega,rfl⟩)
            · omega
            · exact .inr (.inr (.inr (.inr ⟨hg,by omega,by omega,rfl⟩)))
          · rw [if_neg V4] at hg
            rcases hg with hg|⟨_,hg⟩|⟨_,hg⟩
            · exact .inr (.inl ⟨hg,by omega,rfl⟩)
            · omega
            · omega
    · cases h
theorem Rc.stay (hN:oU st s0 f0) {x y p:Nat} (hp:p≤t.length):Rc st t x p y p↔Nr st (AV t p) x y:=by
  constructor
  · intro h
    have key:∀ {x i y k:Nat},Rc st t x i y k→i=p→k=p→Nr st (AV t p) x y:=fun {x i y k} h=>by
      induction h with
      | refl=>intro _ _;exact .refl _
      | @step q i q' i' SD j e h ih=>
        intro e1 e2
        have h1:=e.le
        have h2:=h.le
        have e3:i'=p:=by omega
        subst e1
        rw [e3] at e
        exact (Nr.step (.refl _) (PR hN hp e)).trans (ih e3 e2)
    exact key h rfl rfl
  · intro h
    induction h with
    | refl=>exact .refl _ _
    | step _ e ih=>exact ih.trans (.step (Q4 hN e hp) (.refl _ _))
def Full (st:List ay) (t:List Nat) (s i:Nat) (S:List Bool) (p:Nat):Prop:=S.length=st.length∧∀q,S.getD q false=true↔Rc st t s i q p
def Gen (st:List ay) (t:List Nat) (s i:Nat) (S:List Bool) (p:Nat):Prop:=S.length=st.length∧(∀q,S.getD q false=true→Rc st t s i q p)∧∀q,Rc st t s i q p→∃q0,S.getD q0 false=true∧Rc st t q0 p q p
theorem Full.gen {s i p:Nat} {S:List Bool} (h:Full st t s i S p):Gen st t s i S p:=⟨h.1,fun q=>(h.2 q).1,fun q hq=>⟨q,(h.2 q).2 hq,.refl _ _⟩⟩
theorem wG {S:List Bool} (h:S.length=st.length):∀x,x∈cF S→0≤x∧x<(st.length:Int):=fun x hx=>by have:=lF hx;omega
theorem Cu {S:List Bool} (q:Nat):((q:Nat):Int)∈cF S↔S.getD q false=true:=by
  rw [gG]
  exact ⟨fun ⟨k,e,h⟩=>by (obtain rfl:q=k:=by omega);exact h,fun h=>⟨q,rfl,h⟩⟩
theorem Gen.full (hN:oU st s0 f0) {s i p:Nat} {S:List Bool} (hp:p≤t.length) (h:Gen st t s i S p):Full st t s i (jZ st (cF S) (AV t p)) p:=by
  have hr:=wG h.1
  refine ⟨(ti hN hr).len,fun q=>?_⟩
  rw [C5 hN hr]
  constructor
  · rintro ⟨x,g1,g2⟩
    exact (h.2.1 x ((Cu x).1 g1)).trans ((Rc.stay hN hp).2 g2)
  · intro hq
    obtain ⟨q0,g1,g2⟩:=h.2.2 q hq
    exact ⟨q0,(Cu q0).2 g1,(Rc.stay hN hp).1 g2⟩
theorem Nr.mono {sym:Int} {x y:Nat} (h:Nr st 0 x y):Nr st sym x y:=by
  induction h with
  | refl=>exact .refl _
  | @step a b _ e ih=>
    refine .step ih ?_
    unfold vV at e ⊢
    split at e
    · rename_i h3
      rw [if_pos h3];exact e
    · rename_i h3
      rw [if_neg h3]
      split at e
      · rename_i hg
        rw [if_pos (by unfold goN at hg ⊢;simp only [decide_eq_true_eq] at hg ⊢;omega)];exact e
      · cases e
theorem LN (hN:oU st s0 f0) {i:Nat} (hi:i≤t.length):Gen st t s0.toNat i (jZ st [s0] 0) i∧(AV t i=0→Full st t s0.toNat i (jZ st [s0] 0) i):=by
  have hs:=hN.s
  have hr:∀x,x∈[s0]→0≤x∧x<(st.length:Int):=fun x hx=>by rw [List.mem_singleton] at hx;omega
  have hl:=(ti (sym:=0) hN hr).len
  have hm:=C5 (sym:=0) hN hr
  have h0:(jZ st [s0] 0).getD s0.toNat false=true:=(hm _).2 ⟨s0.toNat,by rw [List.mem_singleton];omega,.refl _⟩
  have h1:∀q,(jZ st [s0] 0).getD q false=true→Rc st t s0.toNat i q i:=fun q hq=>by
    obtain ⟨x,g1,g2⟩:=(hm q).1 hq
    rw [List.mem_singleton] at g1
    rw [show s0.toNat=x by omega]
    exact (Rc.stay hN hi).2 g2.mono
  refine ⟨⟨hl,h1,fun q hq=>⟨_,h0,hq⟩⟩,fun h9=>⟨hl,fun q=>⟨h1 q,fun hq=>(hm q).2 ⟨s0.toNat,by rw [List.mem_singleton];omega,?_⟩⟩⟩⟩
  have:=(Rc.stay hN hi).1 hq
  rw [h9] at this;exact this
theorem Mx {fr:List Int} {b:Nat} {x:Int} :x∈ef st fr b↔∃y,y∈fr∧je st b y=true∧x=(st.getD y.toNat aq).a:=by
  unfold ef
  rw [List.mem_map]
  constructor
  · rintro ⟨y,h,e⟩
    rw [List.mem_filter] at h
    exact ⟨y,h.1,h.2,e.symm⟩
  · rintro ⟨y,h1,h2,e⟩
    exact ⟨y,List.mem_filter.2 ⟨h1,h2⟩,e.symm⟩
theorem Full.step (hN:oU st s0 f0) {s i p:Nat} {S:List Bool} (X4:i≤p) (hp:p<t.length) (h:Full st t s i S p):
    Gen st t s i (jZ st (ef st (cF S) (t.getD p 0)) 0) (p+1)∧(AV t (p+1)=0→Full st t s i (jZ st (ef st (cF S) (t.getD p 0)) 0) (p+1)):=by
  have hr:=pV (b:=t.getD p 0) hN (wG h.1)
  have hl:=(ti (sym:=0) hN hr).len
  have hm:=C5 (sym:=0) hN hr
  have DH:∀x:Nat,(x:Int)∈ef st (cF S) (t.getD p 0)↔∃q1,Rc st t s i q1 p∧ByE st t q1 p x:=fun x=>by
    rw [Mx]
    constructor
    · rintro ⟨y,g1,g2,g3⟩
      have hy:=wG h.1 y g1
      have e:((y.toNat:Nat):Int)=y:=by omega
      rw [←e,Cu] at g1
      unfold je at g2
      rw [Bool.and_eq_true,decide_eq_true_eq] at g2
      exact ⟨y.toNat,(h.2 _).1 g1,g2.1,hp,g2.2,by omega⟩
    · rintro ⟨q1,g1,g2,g3,g4,g5⟩
      have hq:q1<st.length:=by
        refine Nat.lt_of_not_le fun h9=>?_
        rw [List.getD_eq_getElem?_getD,List.getElem?_eq_none h9] at g2
        simp [aq] at g2
      have:=((hN.IQ q1 hq).1).2.2.2.2.2.1
      refine ⟨(q1:Int),(Cu q1).2 ((h.2 _).2 g1),?_,?_⟩
      · unfold je;rw [Bool.and_eq_true,decide_eq_true_eq,Int.toNat_natCast];exact ⟨g2,g4⟩
      · rw [Int.toNat_natCast];omega
  have ad6:∀ {q1 x:Nat},Rc st t s i q1 p→ByE st t q1 p x→Rc st t s i x (p+1):=fun {q1 x} a b=>a.trans (.step (.inl ⟨b.1,b.2.1,b.2.2.1,b.2.2.2,rfl⟩) (.refl _ _))
  have h1:∀q,(jZ st (ef st (cF S) (t.getD p 0)) 0).getD q false=true→Rc st t s i q (p+1):=fun q hq=>by
    obtain ⟨x,g1,g2⟩:=(hm q).1 hq
    obtain ⟨q1,g3,g4⟩:=(DH x).1 g1
    exact (ad6 g3 g4).trans ((Rc.stay hN oz).2 g2.mono)
  have h2:∀q,Rc st t s i q (p+1)→∃q2:Nat,(q2:Int)∈ef st (cF S) (t.getD p 0)∧Rc st t q2 (p+1) q (p+1):=fun q hq=>by
    obtain ⟨q1,q2,a,b,c⟩:=hq.adN X4 (Nat.lt_succ_self p)
    exact ⟨q2,(DH q2).2 ⟨q1,a,b⟩,c⟩
  refine ⟨⟨hl,h1,fun q hq=>?_⟩,fun h9=>⟨hl,fun q=>⟨h1 q,fun hq=>?_⟩⟩⟩
  · obtain ⟨q2,a,b⟩:=h2 q hq
    exact ⟨q2,(hm q2).2 ⟨q2,a,.refl _⟩,b⟩
  · obtain ⟨q2,a,b⟩:=h2 q hq
    have:=(Rc.stay hN oz).1 b
    rw [h9] at this
    exact (hm q).2 ⟨q2,a,this⟩
def RZ (t:List Nat) (i j:Nat):List Int:=((t.take j).drop i).map fun x=>((x:Nat):Int)
def qQ (t:List Nat) (i j:Nat):List Int:=if t.length=0 then [258] else (if i=0 then [256] else [])++RZ t i j++(if j=t.length then [257] else [])
theorem RY (t:List Nat) (i:Nat):RZ t i i=[]:=by unfold RZ;rw [List.drop_of_length_le gv];rfl
theorem RX {i j:Nat} (cN:i≤j) (hj:j<t.length):RZ t i (j+1)=RZ t i j++[((t.getD j 0:Nat):Int)]:=by
  unfold RZ
  rw [List.take_add_one,List.getElem?_eq_getElem hj,List.drop_append_of_le_length Ol,List.map_append,List.getD_eq_getElem?_getD,List.getElem?_eq_getElem hj];rfl
theorem Lz (hN:oU st s0 f0) (hb:∀x,x∈t→x<256) {i j:Nat} (cN:i≤j) (hj:j≤t.length):Full st t s0.toNat i ((qQ t i j).foldl (jF st) (jZ st [s0] 0)) j:=by
  have big:∀(S:List Bool) (sym:Int),¬sym<256→jF st S sym=jZ st (cF S) sym:=fun S sym h=>by unfold jF;rw [if_neg h]
  have small:∀(S:List Bool) (x:Nat),x<256→jF st S (x:Int)=jZ st (ef st (cF S) x) 0:=fun S x h=>by unfold jF;rw [if_pos oz,Int.toNat_natCast]
  have jn:=LN (t:=t) hN (i:=i) oz
  unfold qQ
  by_cases h0:t.length=0
  · rw [if_pos h0]
    simp only [List.foldl_cons,List.foldl_nil]
    rw [big _ _ dF]
    have:=jn.1.full hN oz
    obtain rfl:i=j:=by omega
    rw [show AV t i=258 by unfold AV;rw [if_pos h0]] at this;exact this
  · rw [if_neg h0]
    have pre:∀k,i+k≤t.length→Gen st t s0.toNat i (((if i=0 then [256] else [])++RZ t i (i+k)).foldl (jF st) (jZ st [s0] 0)) (i+k)∧(i+k<t.length→Full st t s0.toNat i (((if i=0 then [256] else [])++RZ t i (i+k)).foldl (jF st) (jZ st [s0] 0)) (i+k)):=by
      intro k
      induction k with
      | zero=>
        intro _
        rw [Nat.add_zero,RY,List.append_nil]
        by_cases hi:i=0
        · rw [if_pos hi]
          simp only [List.foldl_cons,List.foldl_nil]
          rw [big _ _ dF]
          have:=jn.1.full hN oz
          rw [show AV t i=256 by unfold AV;rw [if_neg h0,if_pos hi]] at this
          exact ⟨this.gen,fun _=>this⟩
        · rw [if_neg hi]
          simp only [List.foldl_nil]
          refine ⟨jn.1,fun h9=>jn.2 ?_⟩
          unfold AV;rw [if_neg h0,if_neg hi,if_neg oz]
      | succ k ih=>
        intro hk
        have hF:=(ih oz).2 oz
        rw [show i+(k+1)=(i+k)+1 by omega,RX oz oz,←List.append_assoc,List.foldl_append]
        simp only [List.foldl_cons,List.foldl_nil]
        rw [small _ _ (hb _ (au oz))]
        have:=hF.step hN oz oz
        refine ⟨this.1,fun h9=>this.2 ?_⟩
        unfold AV;rw [if_neg h0,if_neg oz,if_neg oz]
    have hp:=pre (j-i) oz
    rw [show i+(j-i)=j by omega] at hp
    by_cases hjn:j=t.length
    · rw [if_pos hjn,List.foldl_append]
      simp only [List.foldl_cons,List.foldl_nil]
      rw [big _ _ dF]
      have:=hp.1.full hN oz
      rw [show AV t j=257 by unfold AV;rw [if_neg h0,if_neg oz,if_pos hjn]] at this;exact this
    · rw [if_neg hjn,List.append_nil]
      exact hp.2 oz
theorem S1 (hb:∀x,x∈t→x<256) (i j:Nat):∀c,c∈qQ t i j→0≤c∧c<259:=by
  intro c hc
  unfold qQ at hc
  split at hc
  · rw [List.mem_singleton] at hc;omega
  · simp only [List.mem_append] at hc
    rcases hc with (hc|hc)|hc
    · split at hc
      · rw [List.mem_singleton] at hc;omega
      · cases hc
    · unfold RZ at hc
      obtain ⟨x,h1,h2⟩:=List.mem_map.1 hc
      have:=hb x (List.mem_of_mem_take (List.mem_of_mem_drop h1));omega
    · split at hc
      · rw [List.mem_singleton] at hc;omega
      · cases hc
end
section
variable {α:Type} [DecidableEq α] {tr:α→Int→α} {d:α} {fs:List Int}
def GH (tr:α→Int→α) (d:α) (fs:List Int) (p:List α×List Int) (n c:Nat):Prop:=p.2.length=n*fs.length+c∧∀i e,e<fs.length→(i<n∨i=n∧e<c)→
  tr (p.1.getD i d) (fs.getD e 0)∈p.1∧p.2.getD (i*fs.length+e) 0=((ix (tr (p.1.getD i d) (fs.getD e 0)) p.1:Nat):Int)
theorem R9 {os:List α} {x y:α} (h:y∈os):y∈dM os x∧ix y (dM os x)=ix y os:=by
  unfold dM
  by_cases hx:x∈os
  · rw [if_pos hx];exact ⟨h,rfl⟩
  · rw [if_neg hx];exact ⟨List.mem_append_left _ h,pw _ h⟩
theorem W9 {i n e w:Nat} (hi:i<n) (he:e<w):i*w+e<n*w:=by
  have:=Nat.mul_le_mul_right w (show i+1≤n from hi)
  rw [Nat.succ_mul] at this;omega
theorem GH.step {p:List α×List Int} {n c:Nat} (h:GH tr d fs p n c) (hn:n<p.1.length) (hc:c<fs.length):GH tr d fs (Th tr d n p (fs.getD c 0)) n (c+1):=by
  obtain ⟨h1,h2⟩:=h
  refine ⟨?_,fun i e he QE=>?_⟩
  · show (p.2++[_]).length=_;rw [List.length_append,List.length_singleton];omega
  · have DH:i<p.1.length:=by omega
    show tr ((dM p.1 _).getD i d) _∈dM p.1 _∧(p.2++[_]).getD _ 0=((ix (tr ((dM p.1 _).getD i d) _) (dM p.1 _):Nat):Int)
    rw [BL d _ DH]
    by_cases hq:i=n∧e=c
    · obtain ⟨rfl,rfl⟩:=hq
      refine ⟨GB _ _,?_⟩
      rw [←h1,List.getD_eq_getElem?_getD,List.getElem?_append_right (Nat.le_refl _)];simp
    · have acw:i<n∨i=n∧e<c:=by omega
      obtain ⟨g1,g2⟩:=h2 i e he acw
      obtain ⟨g3,g4⟩:=R9 (x:=tr (p.1.getD n d) (fs.getD c 0)) g1
      refine ⟨g3,?_⟩
      have cX:i*fs.length+e<p.2.length:=by
        rw [h1]
        rcases acw with h9|⟨h9,h8⟩
        · have:=W9 h9 he;omega
        · subst h9;omega
      rw [List.getD_eq_getElem?_getD,List.getElem?_append_left cX,←List.getD_eq_getElem?_getD,g4];exact g2
theorem GH.row {p:List α×List Int} {n:Nat} (h:GH tr d fs p n 0) (rQ:p.1.Nodup) (hn:n<p.1.length):∀c,c≤fs.length→GH tr d fs (lz tr d n (fs.take c) p) n c
  | 0,_=>h
  | c+1,hc=>by
    rw [mR oz]
    have hr:=uP.row (tr:=tr) (d:=d) rQ fs n c oz
    exact (GH.row h rQ hn c oz).step (Nat.lt_of_lt_of_le hn hr.Ir) oz
theorem JY (x0:α):∀n,(∀k,k<n→k<(ew tr d fs x0 k).1.length)→GH tr d fs (ew tr d fs x0 n) n 0∧(ew tr d fs x0 n).1.getD 0 d=x0∧0<(ew tr d fs x0 n).1.length
  | 0,_=>⟨⟨by simp [ew],fun i e _ h=>by omega⟩,rfl,by simp [ew]⟩
  | n+1,h=>by
    obtain ⟨h1,h2,h3⟩:=JY x0 n (fun k hk=>h k oz)
    have rQ:=gy (tr:=tr) (d:=d) fs x0 n
    have hr:=h1.row rQ (h n oz) fs.length (Nat.le_refl _)
    have hi:=uP.row (tr:=tr) (d:=d) rQ fs n fs.length (Nat.le_refl _)
    rw [List.take_length] at hr hi
    refine ⟨⟨?_,fun i e he QE=>hr.2 i e he oz⟩,?_,Nat.lt_of_lt_of_le h3 hi.Ir⟩
    · have:=hr.1;rw [Nat.succ_mul];exact this
    · show (lz tr d n fs (ew tr d fs x0 n)).1.getD 0 d=x0
      rw [hi.vk 0 h3];exact h2
theorem An.tab {x0:α} {aK:Int} {os:List α} {nx:List Int} (h:An tr d fs x0 aK (os,nx)) (hm:(os.length:Int)≤aK):
    os.getD 0 d=x0∧0<os.length∧∀i e,e<fs.length→i<os.length→tr (os.getD i d) (fs.getD e 0)∈os∧nx.getD (i*fs.length+e) 0=((ix (tr (os.getD i d) (fs.getD e 0)) os:Nat):Int):=by
  obtain ⟨n,h1,h2,h3⟩:=h
  obtain ⟨g1,g2,g3⟩:=JY (tr:=tr) (d:=d) (fs:=fs) x0 n (fun k hk=>(h1 k hk).1)
  rw [←h3] at g1 g2 g3 h2
  have hle:os.length≤n:=by
    refine Nat.le_of_not_lt fun h9=>h2 ⟨h9,hm⟩
  exact ⟨g2,g3,fun i e he hi=>g1.2 i e he oz⟩
end
theorem JW {st:List ay} {o:List Bool} {a b:Nat} (h:rP st st.length a b):jF st o (a:Int)=jF st o (b:Int):=by
  rcases h with rfl|⟨h1,h2,h3⟩
  · rfl
  · unfold jF
    rw [if_pos oz,if_pos oz,Int.toNat_natCast,Int.toNat_natCast]
    have:ef st (cF o) a=ef st (cF o) b:=by
      unfold ef
      have e:∀x,je st a x=je st b x:=fun x=>by
        unfold je
        rcases Nat.lt_or_ge x.toNat st.length with h9|h9
        · rw [h3 _ h9]
        · rw [List.getD_eq_getElem?_getD,List.getElem?_eq_none h9];simp [aq]
      rw [funext e]
    rw [this]
theorem oS.run {st:List ay} {s0 f0 aK:Int} {d:ar} (h:oS st s0 f0 aK d 0) {w:List Int} (hw:okW w):kh d d.start w=(w.foldl (jF st) (jZ st [s0] 0)).getD f0.toNat false:=by
  obtain ⟨cls,wd,os,nx,h1,h2,⟨hm,_,rfl⟩|⟨_,e,_⟩⟩:=h
  case inr=>omega
  obtain ⟨g1,g2,g3⟩:=h2.tab hm
  have jz:=h1.k8
  have wM:=kf h1
  have key:∀(w:List Int) (i:Nat),okW w→i<os.length→w.foldl (bA ⟨cls,wd,0,nx,os.map (·.getD f0.toNat false)⟩) (i:Int)=((ix (w.foldl (jF st) (os.getD i [])) os:Nat):Int)∧w.foldl (jF st) (os.getD i [])∈os:=by
    intro w
    induction w with
    | nil=>
      intro i _ hi
      have rQ:=(h2.fin hm).2.2.1
      refine ⟨?_,au hi⟩
      simp only [List.foldl_nil]
      have rz:os.getD i []∈os:=au hi
      have e1:=nW (d:=([]:List Bool)) rz
      have e2:=pv rz
      have:ix (os.getD i []) os=i:=by
        generalize ix (os.getD i []) os=k at e1 e2 ⊢
        rw [List.getD_eq_getElem?_getD,List.getElem?_eq_getElem e2,List.getD_eq_getElem?_getD,List.getElem?_eq_getElem hi] at e1
        simp only [Option.getD_some] at e1
        exact (List.getElem_inj rQ).1 e1
      rw [this]
    | cons c w ih=>
      intro i bX hi
      obtain ⟨hc,agN⟩:=bX.tail
      simp only [List.foldl_cons]
      have Um:c.toNat<cls.length:=by rw [h1.len];omega
      have hk:=jz.2.2 c.toNat (by have:=h1.len;omega)
      have hkm:((cls.getD c.toNat 0).toNat:Int)=cls.getD c.toNat 0:=by omega
      have Bm:(cls.getD c.toNat 0).toNat<(ax cls wd).length:=by rw [wM.1];omega
      have rz:cls.getD c.toNat 0∈cls:=au Um
      have hf:(ax cls wd).getD (cls.getD c.toNat 0).toNat 0=((ix (cls.getD c.toNat 0) cls:Nat):Int):=by
        rw [vA (by rw [←kg cls wd];exact Bm),hkm];unfold dp;rw [if_pos rz]
      have Wc:=pv rz
      have Yg:rP st st.length (ix (cls.getD c.toNat 0) cls) c.toNat:=(h1.alk _ _ (by rw [←h1.len];exact Wc) oz).1 (nW rz)
      have htr:jF st (os.getD i []) ((ax cls wd).getD (cls.getD c.toNat 0).toNat 0)=jF st (os.getD i []) c:=by
        rw [hf,JW Yg,show ((c.toNat:Nat):Int)=c by omega]
      obtain ⟨q1,q2⟩:=g3 i _ Bm hi
      rw [htr] at q1 q2
      have abW:bA ⟨cls,wd,0,nx,os.map (·.getD f0.toNat false)⟩ (i:Int) c=((ix (jF st (os.getD i []) c) os:Nat):Int):=by
        unfold bA
        simp only
        rw [←q2,wM.1]
        congr 1
        have:((i*wd.toNat+(cls.getD c.toNat 0).toNat:Nat):Int)=(i:Int)*wd+cls.getD c.toNat 0:=by
          rw [Int.natCast_add,Int.natCast_mul,hkm,Int.toNat_of_nonneg oz]
        omega
      rw [abW]
      have cX:=pv q1
      have:=ih (ix (jF st (os.getD i []) c) os) agN cX
      rw [nW q1] at this
      exact this
  have:=key w 0 hw g2
  rw [g1] at this
  unfold kh
  simp only
  have t1:=this.1
  rw [show (((0:Nat)):Int)=0 from rfl] at t1
  rw [t1,Int.toNat_natCast]
  have cX:=pv this.2
  have e:=nW (d:=([]:List Bool)) this.2
  rw [List.getD_eq_getElem?_getD,List.getElem?_map,List.getElem?_eq_getElem cX]
  rw [List.getD_eq_getElem?_getD,List.getElem?_eq_getElem cX] at e
  simp only [Option.map_some,Option.getD_some] at e ⊢
  rw [e]
theorem gX.one {l:List Nd} {aK:Int} {d:ar} (h:gX l aK d 0):∃st s0 f0 d1,oB l st s0 f0 0∧oS st s0 f0 aK d1 0∧d=cJ d1:=by
  obtain ⟨st,s0,f0,e1,h1,⟨a,b,_⟩|⟨a,d1,e2,h3,⟨b,c,_⟩|⟨b,_,c⟩⟩⟩:=h
  · exact absurd b.symm a
  · exact absurd c.symm b
  · subst a;subst b;exact ⟨st,s0,f0,d1,h1,h3,c⟩
theorem gX.right {l:List Nd} {aK:Int} {d:ar} (h:gX l aK d 0) (hm:aK≤4096):aN d=true:=by
  obtain ⟨st,s0,f0,d1,_,h2,rfl⟩:=h.one
  exact Cy (h2.right hm)
theorem gX.fits {l:List Nd} {aK:Int} {d:ar} {T:Tr} (h:gX l aK d 0) (hm:aK≤4096) (hw:T.wk) (hf:T.flat=l) {t:List Nat} (hb:∀x,x∈t→x<256) {i j:Nat} (cN:i≤j) (hj:j≤t.length):
    kh d d.start (qQ t i j)=true↔qP t T i j:=by
  obtain ⟨st,s0,f0,d1,h1,h2,rfl⟩:=h.one
  have bX:okW (qQ t i j):=S1 hb i j
  rw [Fg (h2.right hm) _ bX,h2.run bX,←Ve h1 hw hf t i j]
  exact (Lz h1.okN hb cN hj).2 _
def LK (p:ByteArray):Nat→Nat→List Tk→Option (List Tk)
  | 0,_,_=>none
  | k+1,a,o=>if a<p.size then (if bn p a=91 then none else match jG p a with|some (t,n)=>LK p k n (o++[t])|none=>none) else some o
theorem Oo {p:ByteArray} {l:List Tk} :∀(k a:Nat) (o:List Tk),LK p k a o=some l→j1 p a o ⟨l,0,0⟩
  | 0,_,_,h=>by cases h
  | k+1,a,o,h=>by
    unfold LK at h
    split at h
    · rename_i ha
      split at h
      · cases h
      · rename_i hb
        split at h
        · rename_i t n e
          exact .step ha (.inr ⟨hb,e.symm⟩) (Oo k n _ h)
        · cases h
    · rename_i ha
      cases h;exact .done ha
theorem AH {p:ByteArray} {l:List Tk} (h:LK p 20 0 []=some l) (hs:p.size≤200):eS p ⟨l,0,0⟩:=by
  unfold eS;rw [if_neg oz];exact Oo _ _ _ h
def VJ (l:List Tk) (o:List Nd):Bool:=(List.range l.length).all (fun j=>decide (fk l j=0))&&decide ((dU l l.length).st.length=1)&&decide ((bW (dU l l.length)).out=o)&&decide (o.length≤512)
theorem Xf {p:ByteArray} {l:List Tk} {o:List Nd} (h:LK p 20 0 []=some l) (hs:p.size≤200) (h2:VJ l o=true):lW p o 0 0:=by
  unfold VJ at h2
  simp only [Bool.and_eq_true,List.all_eq_true,decide_eq_true_eq,List.mem_range] at h2
  obtain ⟨⟨⟨a,b⟩,c⟩,d⟩:=h2
  refine ⟨l,0,0,AH h hs,.inr ⟨rfl,.inr ⟨a,.inr ⟨b,.inr ⟨by rw [c];exact d,c.symm,rfl,rfl⟩⟩⟩⟩⟩
def Kg (l:List Tk):Bool:=(List.range l.length).all (fun j=>decide (fk l j=0))&&decide ((dU l l.length).st.length>1)
theorem PB {p:ByteArray} {l:List Tk} (h:LK p 20 0 []=some l) (hs:p.size≤200) (h2:Kg l=true):lW p [] p.size 3:=by
  unfold Kg at h2
  simp only [Bool.and_eq_true,List.all_eq_true,decide_eq_true_eq,List.mem_range] at h2
  exact ⟨l,0,0,AH h hs,.inr ⟨rfl,.inr ⟨h2.1,.inl ⟨h2.2,rfl,rfl,rfl⟩⟩⟩⟩
def Eu (st:List ay) (sym:Int) (o:List Bool):List Bool:=(List.range st.length).map fun q:Nat=>o.getD q false||(List.range st.length).any fun x:Nat=>o.getD x false&&(vV st sym ((x:Nat):Int)).contains ((q:Nat):Int)
def MK (st:List ay) (fr:List Int):List Bool:=(List.range st.length).map fun q:Nat=>fr.contains ((q:Nat):Int)
def uH (st:List ay) (fr:List Int) (sym:Int):Nat→List Bool
  | 0=>MK st fr
  | k+1=>Eu st sym (uH st fr sym k)
theorem Cr {n:Nat} {f:Nat→Bool} (q:Nat):((List.range n).map f).getD q false=true↔q<n∧f q=true:=by
  rw [List.getD_eq_getElem?_getD,List.getElem?_map]
  rcases Nat.lt_or_ge q n with h|h
  · rw [List.getElem?_range h];simp [h]
  · rw [List.getElem?_eq_none (by simpa using h)];simp;omega
theorem Ge (st:List ay) (fr:List Int) (sym:Int):∀k,(uH st fr sym k).length=st.length
  | 0=>by simp [uH,MK]
  | k+1=>by simp [uH,Eu]
theorem xL {st:List ay} {sym:Int} {o:List Bool} (q:Nat):(Eu st sym o).getD q false=true↔q<st.length∧(o.getD q false=true∨∃x,x<st.length∧o.getD x false=true∧(q:Int)∈vV st sym (x:Int)):=by
  unfold Eu
  rw [Cr,Bool.or_eq_true,List.any_eq_true]
  constructor
  · rintro ⟨h1,h2|⟨x,hx,h3⟩⟩
    · exact ⟨h1,.inl h2⟩
    · rw [Bool.and_eq_true,List.contains_iff_mem] at h3
      exact ⟨h1,.inr ⟨x,List.mem_range.1 hx,h3.1,h3.2⟩⟩
  · rintro ⟨h1,h2|⟨x,hx,h3,h4⟩⟩
    · exact ⟨h1,.inl h2⟩
    · exact ⟨h1,.inr ⟨x,List.mem_range.2 hx,by rw [Bool.and_eq_true,List.contains_iff_mem];exact ⟨h3,h4⟩⟩⟩
theorem Ns {st:List ay} {s0 f0 sym:Int} {fr:List Int} {k:Nat} (hN:oU st s0 f0) (hr:∀t,t∈fr→0≤t∧t<(st.length:Int)) (hs:Eu st sym (uH st fr sym k)=uH st fr sym k):jZ st fr sym=uH st fr sym k:=by
  refine y2 hN ⟨Ge st fr sym k,fun t ht=>?_,fun s h t ht=>?_,fun Q h1 h2 s h=>?_⟩ (fun t ht=>(hr t ht).1)
  · have key:∀k,(uH st fr sym k).getD t.toNat false=true:=by
      intro k
      induction k with
      | zero=>
        have:=hr t ht
        show (MK st fr).getD _ _=_
        unfold MK;rw [Cr,List.contains_iff_mem]
        exact ⟨by omega,by rw [show ((t.toNat:Nat):Int)=t by omega];exact ht⟩
      | succ k ih=>
        have:=hr t ht
        show (Eu st sym _).getD _ _=_
        rw [xL];exact ⟨by omega,.inl ih⟩
    exact key k
  · have cX:s<st.length:=by
      refine Nat.lt_of_not_le fun h9=>?_
      rw [List.getD_eq_getElem?_getD,List.getElem?_eq_none (by rw [Ge];exact h9)] at h;cases h
    have:=kN hN (x:=(s:Int)) ⟨by omega,by omega⟩ t ht
    rw [←hs,xL]
    exact ⟨by omega,.inr ⟨s,cX,h,by rw [show ((t.toNat:Nat):Int)=t by omega];exact ht⟩⟩
  · have key:∀k (s:Nat),(uH st fr sym k).getD s false=true→Q s:=by
      intro k
      induction k with
      | zero=>
        intro s h
        have h:(MK st fr).getD s false=true:=h
        unfold MK at h;rw [Cr,List.contains_iff_mem] at h
        exact h1 _ h.2
      | succ k ih=>
        intro s h
        have h:(Eu st sym (uH st fr sym k)).getD s false=true:=h
        rw [xL] at h
        rcases h.2 with h|⟨x,_,h3,h4⟩
        · exact ih s h
        · exact h2 _ (ih x h3) _ h4
    exact key k s h
def XG (st:List ay) (L:List (List Bool)) (k:Nat) (fr:List Int) (sym:Int):Bool:=decide (Eu st sym (uH st fr sym k)=uH st fr sym k)&&L.contains (uH st fr sym k)
def VQ (st:List ay) (R:List Nat):Bool:=(List.range 256).all fun b=>R.any fun r=>decide (r<256)&&(List.range st.length).all fun m=>(st.getD m aq).set.has b==(st.getD m aq).set.has r
def yW (st:List ay) (s0:Int) (L:List (List Bool)) (k:Nat) (R:List Nat):Bool:=
  XG st L k [s0] 0&&L.all (fun o=>decide (o.length=st.length)&&R.all (fun r=>XG st L k (ef st (cF o) r) 0)&&XG st L k (cF o) 256&&XG st L k (cF o) 257&&XG st L k (cF o) 258)&&VQ st R
theorem sS {st:List ay} {s0 f0 sym:Int} {fr:List Int} {L:List (List Bool)} {k:Nat} (hN:oU st s0 f0) (hr:∀t,t∈fr→0≤t∧t<(st.length:Int)) (h:XG st L k fr sym=true):jZ st fr sym∈L:=by
  unfold XG at h
  rw [Bool.and_eq_true,decide_eq_true_eq,List.contains_iff_mem] at h
  rw [Ns hN hr h.1];exact h.2
theorem UY {st:List ay} {s0 f0 aK:Int} {L:List (List Bool)} {k:Nat} {R:List Nat} (hN:oU st s0 f0) (h:yW st s0 L k R=true) (hm:(L.length:Int)≤aK) {d:ar} {er:Int} (hd:oS st s0 f0 aK d er):er=0:=by
  unfold yW at h
  simp only [Bool.and_eq_true,List.all_eq_true,decide_eq_true_eq] at h
  obtain ⟨⟨h1,h2⟩,h3⟩:=h
  have hs:=hN.s
  have KJ:=sS hN (fun t ht=>by rw [List.mem_singleton] at ht;omega) h1
  have htr:∀o,o∈L→∀sym:Int,0≤sym→sym<259→jF st o sym∈L:=by
    intro o ho sym g1 g2
    obtain ⟨⟨⟨⟨q1,q2⟩,q3⟩,q4⟩,q5⟩:=h2 o ho
    have hl:=wG q1
    by_cases hb:sym<256
    · unfold VQ at h3
      rw [List.all_eq_true] at h3
      have h9:=h3 sym.toNat (List.mem_range.2 oz)
      rw [List.any_eq_true] at h9
      obtain ⟨r,hr,h8⟩:=h9
      simp only [Bool.and_eq_true,List.all_eq_true,decide_eq_true_eq,List.mem_range,beq_iff_eq] at h8
      have Yg:rP st st.length sym.toNat r:= .inr ⟨by omega,h8.1,fun m hm=>h8.2 m hm⟩
      rw [←show ((sym.toNat:Nat):Int)=sym by omega,JW Yg]
      unfold jF;rw [if_pos oz,Int.toNat_natCast]
      exact sS hN (pV hN hl) (q2 r hr)
    · unfold jF;rw [if_neg hb]
      rcases (by omega:sym=256∨sym=257∨sym=258) with rfl|rfl|rfl
      · exact sS hN hl q3
      · exact sS hN hl q4
      · exact sS hN hl q5
  obtain ⟨cls,wd,os,nx,g1,⟨n,e1,e2,e3⟩,g3⟩:=hd
  have wM:=kf g1
  have jS:∀m,m≤n→∀o,o∈(ew (jF st) [] (ax cls wd) (jZ st [s0] 0) m).1→o∈L:=by
    intro m
    induction m with
    | zero=>intro _ o ho;simp only [ew,List.mem_singleton] at ho;rw [ho];exact KJ
    | succ m ih=>
      intro hm9
      have rQ:=gy (tr:=jF st) (d:=([]:List Bool)) (ax cls wd) (jZ st [s0] 0) m
      have cX:=(e1 m oz).1
      have row:∀c,c≤(ax cls wd).length→∀o,o∈(lz (jF st) [] m ((ax cls wd).take c) (ew (jF st) [] (ax cls wd) (jZ st [s0] 0) m)).1→o∈L:=by
        intro c
        induction c with
        | zero=>intro _;exact ih oz
        | succ c ihc=>
          intro hc
          rw [mR oz]
          have KL:=wM.2 _ (au (d:=0) (show c<(ax cls wd).length by omega))
          have hr:=uP.row (tr:=jF st) (d:=([]:List Bool)) rQ (ax cls wd) m c oz
          exact tA (ihc oz) (htr _ (ihc oz _ (au (Nat.lt_of_lt_of_le cX hr.Ir))) _ KL.1 KL.2)
      have:=row (ax cls wd).length (Nat.le_refl _)
      rw [List.take_length] at this;exact this
  have V5:=jS n (Nat.le_refl _)
  have rQ:=gy (tr:=jF st) (d:=([]:List Bool)) (ax cls wd) (jZ st [s0] 0) n
  rw [←e3] at V5 rQ
  have hle:=rQ.length_le_of_subset V5
  rcases g3 with ⟨_,a,_⟩|⟨a,_,_⟩
  · exact a
  · simp only at hle;omega
theorem gX.zero {l:List Nd} {aK e:Int} {d:ar} {T:Tr} {L:List (List Bool)} {k:Nat} {R:List Nat} (h:gX l aK d e) (hw:T.wk) (ho:fo T) (hf:T.flat=l) (hl:l.length≤512) (hz:br T≤600)
    (hc:yW ((ao T []).s.set (ao T []).last n8) ((ao T []).first:Nat) L k R=true) (hm:(L.length:Int)≤aK):e=0:=by
  obtain ⟨st,s0,f0,e1,h1,h2⟩:=h
  have h9:oB l ((ao T []).s.set (ao T []).last n8) ((ao T []).first:Nat) ((ao T []).last:Nat) 0:= .inr ⟨T,hw,hf,ho,.inr ⟨hz,rfl,rfl,rfl,rfl⟩⟩
  obtain ⟨rfl,rfl,rfl,rfl⟩:=h1.uniq h9 hl
  rcases h2 with ⟨a,_⟩|⟨_,d1,e2,h3,h4⟩
  · exact absurd rfl a
  · have:=UY h1.okN hc hm h3
    subst this
    rcases h4 with ⟨a,_⟩|⟨_,a,_⟩
    · exact absurd rfl a
    · exact a
theorem Mn:lW ⟨#[97,40]⟩ [] 2 3:=PB (p:=⟨#[97,40]⟩) (l:=[⟨1,0,gU [97],0,0⟩,⟨3,1,Bs.zero,0,0⟩]) (by decide+kernel) dF (by decide+kernel)
theorem abq:lW ⟨#[97]⟩ [⟨1,gU [97],0,0⟩] 0 0:=Xf (l:=[⟨1,0,gU [97],0,0⟩]) (by decide+kernel) dF (by decide+kernel)
theorem Nq {p:oA} {a e:Int} (h:uU ⟨#[97,40]⟩ 9 p a e):a=2∧e=3:=by
  have:=h.uniq (⟨_,_,_,Mn,.inl ⟨by decide,rfl,rfl,rfl⟩⟩:uU ⟨#[97,40]⟩ 9 iY 2 3)
  exact this.2
def yk (c:Nat):Tr:= .leaf ⟨1,gU [c],0,0⟩
def ltL:List (List Bool):=[[true,false],[false,true],[false,false]]
def ltM:List (List Bool):=[[true,true,false,true,true,true,false],[false,true,true,true,true,true,false],[false,true,true,true,true,true,true]]
theorem Y6:yW ((ao (yk 97) []).s.set (ao (yk 97) []).last n8) ((ao (yk 97) []).first:Nat) ltL 2 [97,0]=true:=by decide+kernel
theorem Y5:yW ((ao (zc (yk 97)) []).s.set (ao (zc (yk 97)) []).last n8) ((ao (zc (yk 97)) []).first:Nat) ltM 7 [97,0]=true:=by decide+kernel
theorem ru (c:Nat):(yk c).wk:= .inl rfl
theorem Ct (c:Nat):fo (yk c):=ym (by simp [c8])
theorem I7 {c:Nat} {s:ByteArray} {R:List Nat} {aK a e:Int} {p:oA} (h:uU s aK p a e) (hp:lW s [⟨1,gU [c],0,0⟩] 0 0) (h1:yW ((ao (yk c) []).s.set (ao (yk c) []).last n8) ((ao (yk c) []).first:Nat) ltL 2 R=true)
    (h2:yW ((ao (zc (yk c)) []).s.set (ao (zc (yk c)) []).last n8) ((ao (zc (yk c)) []).first:Nat) ltM 7 R=true) (hm:9≤aK∧aK≤1024):a=0∧e=0∧p.tree=(yk c).flat:=by
  obtain ⟨l,a1,e1,g1,g2⟩:=h
  obtain ⟨rfl,rfl,rfl⟩:=g1.uniq hp
  rcases g2 with ⟨b,_⟩|⟨_,⟨b,_⟩|⟨_,_,⟨b,_⟩|⟨_,b,g3⟩⟩⟩
  · exact absurd rfl b
  · omega
  · have:=uO (ru c) (Ct c)
    rw [show (yk c).flat=[⟨1,gU [c],0,0⟩] from rfl,b] at this
    simp at this
  · have g4:=g3.thr (ru c) (Ct c) rfl (by simp)
    have z1:∀ {d:ar} {e:Int},gX [⟨1,gU [c],0,0⟩] aK d e→e=0:=fun h=>h.zero (ru c) (Ct c) rfl (by simp) (by simp [br,yk]) h1 (by simp [ltL];omega)
    have z2:∀ {d:ar} {e:Int},gX (gO [⟨1,gU [c],0,0⟩]) aK d e→e=0:=fun h=>h.zero (Dp (ru c)) (Lm (Ct c)) (qu _) (by rw [lQ];simp) (by simp [br,yk,zc,tm,eB,nd];omega) h2 (by simp [ltM];omega)
    have he:e=0:=by
      obtain ⟨d1,e1,k1,⟨q,_⟩|⟨q,d2,e2,k2,⟨q2,_⟩|⟨q2,d3,e3,k3,⟨q3,_⟩|⟨q3,r,_⟩⟩⟩⟩:=g4
      · exact absurd (z1 k1) q
      · exact absurd (z2 k2) q2
      · exact absurd (z2 k3) q3
      · exact r
    subst he
    exact ⟨b,rfl,g4.tree⟩
theorem jX {s:ByteArray} {aK a:Int} {p:oA} {r:Bool} (h:uU s aK p a 0) (hr:aew p.tree p.fw p.se p.bk r):r=true:=by
  obtain ⟨_,_,hm,_,T,hw,ho,hf,hl,h4⟩:=h.some
  obtain ⟨q,er,h5,rfl⟩:=hr
  obtain ⟨rfl,rfl⟩:=(h5.thr hw ho hf oz).uniq (h4.mono hm) hl (D0 (by rw [hf];exact hl))
  simp [ft]
theorem eF.af1 {l back:List Nd} {aK:Int} {p:oA} (h:eF l back aK p 0):gX l aK p.fw 0∧gX (gO l) aK p.se 0∧gX (gO back) aK p.bk 0:=by
  obtain ⟨d1,e1,h1,⟨a,b,_⟩|⟨a,d2,e2,h2,⟨b,c,_⟩|⟨b,d3,e3,h3,⟨c,q,_⟩|⟨c,_,q⟩⟩⟩⟩:=h
  · exact absurd b.symm a
  · exact absurd c.symm b
  · exact absurd q.symm c
  · subst a;subst b;subst c;subst q;exact ⟨h1,h2,h3⟩
theorem Iq {c:Nat} {s:ByteArray} {aK a:Int} {p:oA} (h:uU s aK p a 0) (ht:p.tree=(yk c).flat) (hc:97≤c∧c<128):
    jx p.fw [(c:Int)]=true∧jx p.fw [98,(c:Int)]=false∧jx p.se [98,(c:Int)]=true:=by
  obtain ⟨_,_,hm,_,T,hw,ho,hf,hl,h4⟩:=h.some
  obtain ⟨o1,o2,_⟩:=h4.af1
  rw [ht] at o1 o2
  have hb:∀x,x∈[0,c,0]→x<256:=by intro x hx;simp at hx;omega
  have zB:∀x,x∈[0,98,c,0]→x<256:=by intro x hx;simp at hx;omega
  have w1:qQ [0,c,0] 1 2=[(c:Int)]:=by simp [qQ,RZ]
  have w2:qQ [0,98,c,0] 1 3=[98,(c:Int)]:=by simp [qQ,RZ]
  have acx:(gU [c]).has c=true:=by rw [nZ (by intro x hx;simp at hx;omega) oz];simp
  have k1:okW [(c:Int)]:=by intro x hx;simp at hx;omega
  have k2:okW [98,(c:Int)]:=by intro x hx;simp at hx;omega
  have f1:=o1.fits oz (ru c) rfl hb (i:=1) (j:=2) oz (by simp)
  have f2:=o1.fits oz (ru c) rfl zB (i:=1) (j:=3) oz (by simp)
  have f3:=o2.fits oz (Dp (ru c)) (qu _) zB (i:=1) (j:=3) oz (by simp)
  rw [w1] at f1
  rw [w2] at f2 f3
  rw [oq (o1.right oz) k1,oq (o1.right oz) k2,oq (o2.right oz) k2]
  refine ⟨f1.2 ?_,Bool.eq_false_iff.2 fun h9=>?_,f3.2 ?_⟩
  · simp [qP,yk,acx]
  · have:=f2.1 h9;simp [qP,yk] at this
  · refine ⟨2,⟨1,by decide,.inl rfl,1,rfl,?_⟩,?_⟩
    · simp [qP];decide
    · simp [qP,yk,acx]
def ajc (s:ByteArray) (b:Bool):Prop:=∃l a e,lW s l a e∧((e≠0∧b=false)∨(e=0∧∃T,T.wk∧fo T∧T.flat=l∧b=decide (br T>50)))
open Go.ChangeShapes Go.WideShapes Go.ChangeAt Go.RowKit
section
variable {H:Type} {enc:TypeId×Value→H} {P:Program} {W:World} {α β:Type} {t e:TypeId}
theorem R5 {w w':World} (h:aE w [] w' []):RowKit.Below w.heap.size w w':=(aE.keep h).below
end
end Go.Sx
namespace Go.Proofs.YtpbgmkhmdbchpaaGreatDoor
open Go Go.Sx
theorem sz2:cp Tryz.prog 2=some (1,8,some (.int .i64 0)):=by kernel_rfl
theorem zM:cp Tryz.prog 3=some (1,8,some (.int .i64 0)):=by kernel_rfl
theorem Tg:cp Tryz.prog 4=some (1,1,some (.bool false)):=by kernel_rfl
theorem sz5:cp Tryz.prog 5=some (1,1,some (.int .u8 0)):=by kernel_rfl
theorem Hd:cp Tryz.prog 25=some (1,24,some (.slice none 0 0)):=by kernel_rfl
theorem afM:cp Tryz.prog 26=some (1,24,some (.slice none 0 0)):=by kernel_rfl
theorem km:cp Tryz.prog 85=some (1,8,some (.int .u64 0)):=by kernel_rfl
theorem Hc:cp Tryz.prog 87=some (4,32,some (.agg #[.int .u64 0,.int .u64 0,.int .u64 0,.int .u64 0])):=by kernel_rfl
theorem Ea:cp Tryz.prog 89=some (7,56,some (.agg #[.int .i64 0,.int .u64 0,.int .u64 0,.int .u64 0,.int .u64 0,.int .i64 0,.int .i64 0])):=by kernel_rfl
theorem VI:cp Tryz.prog 142=some (2,16,some (.agg #[.int .i64 0,.int .i64 0])):=by kernel_rfl
theorem VH:cp Tryz.prog 193=some (7,56,some (.agg #[.int .i64 0,.int .i64 0,.int .i64 0,.int .u64 0,.int .u64 0,.int .u64 0,.int .u64 0])):=by kernel_rfl
theorem aaP:cp Tryz.prog 249=some (2,16,some (.agg #[.int .i64 0,.int .i64 0])):=by kernel_rfl
theorem af3:gJ Tryz.prog 75:=rK Tryz.func75 dF rfl
theorem abx:gJ Tryz.prog 132:=rK Tryz.func132 dF rfl
theorem abw:gJ Tryz.prog 161:=rK Tryz.func161 dF rfl
theorem abv:gJ Tryz.prog 173:=rK Tryz.func173 dF rfl
theorem Ko:gJ Tryz.prog 195:=rK Tryz.func195 dF rfl
theorem abu:gJ Tryz.prog 198:=rK Tryz.func198 dF rfl
theorem mixed:Tryz.prog.follows .mixedOrders=true:=by kernel_rfl
end Go.Proofs.YtpbgmkhmdbchpaaGreatDoor
namespace Go.Sx
theorem iX {p:Prop} (h:p:=by kernel_rfl):p:=h
end Go.Sx
namespace Go.Proofs.YtpbgmkhmdbchpaaGreatDoor
open Go Go.Sx
noncomputable instance tbI:Tb Tryz.prog where
  u:=[(3,.int .i64),(4,.bool),(5,.int .u8),(9,.string),(24,.slice 89),(25,.slice 3),(26,.slice 4),(28,.struct (Tryz.prog.fieldsOf 28)),(30,.struct (Tryz.prog.fieldsOf 30)),(31,.int .i64),(38,.slice 26),(85,.int .u64),(87,.array 4 85),(89,.struct (Tryz.prog.fieldsOf 89)),(102,.slice 131),(114,.pointer 28),(115,.struct (Tryz.prog.fieldsOf 115)),(116,.slice 115),(131,.struct (Tryz.prog.fieldsOf 131)),(140,.pointer 145),(142,.struct (Tryz.prog.fieldsOf 142)),(143,.slice 142),(145,.struct (Tryz.prog.fieldsOf 145)),(147,.pointer 149),(149,.struct (Tryz.prog.fieldsOf 149)),(151,.slice 193),(153,.struct (Tryz.prog.fieldsOf 153)),(164,.slice 24),(165,.int .u64),(168,.struct (Tryz.prog.fieldsOf 168)),(177,.struct (Tryz.prog.fieldsOf 177)),(187,.pointer 189),(189,.struct (Tryz.prog.fieldsOf 189)),(193,.struct (Tryz.prog.fieldsOf 193)),(196,.pointer 200),(197,.map 9 3),(198,.slice 25),(200,.struct (Tryz.prog.fieldsOf 200)),(209,.struct (Tryz.prog.fieldsOf 209)),(232,.slice 5),(242,.pointer 247),(244,.slice 198),(245,.slice 249),(247,.struct (Tryz.prog.fieldsOf 247)),(249,.struct (Tryz.prog.fieldsOf 249)),(254,.map 256 3),(256,.struct (Tryz.prog.fieldsOf 256)),(258,.map 3 3),(277,.map 3 25),(281,.array 64 5),(285,.slice 289),(287,.slice 303),(289,.struct (Tryz.prog.fieldsOf 289)),(303,.struct (Tryz.prog.fieldsOf 303))]
  hu:=by kernel_rfl
  s:=[(3,1,8,.int .i64 0),(4,1,1,.bool false),(5,1,1,.int .u8 0),(9,1,16,.string ⟨#[]⟩),(24,1,24,.slice none 0 0),(25,1,24,.slice none 0 0),(26,1,24,.slice none 0 0),(28,5,88,.agg #[.slice none 0 0,.int .i64 0,.int .i64 0,.slice none 0 0,.slice none 0 0]),(30,16,288,.agg #[.slice none 0 0,.slice none 0 0,.int .i64 0,.int .i64 0,.slice none 0 0,.slice none 0 0,.slice none 0 0,.int .i64 0,.int .i64 0,.slice none 0 0,.slice none 0 0,.slice none 0 0,.int .i64 0,.int .i64 0,.slice none 0 0,.slice none 0 0]),(31,1,8,.int .i64 0),(38,1,24,.slice none 0 0),(85,1,8,.int .u64 0),(87,4,32,.agg #[.int .u64 0,.int .u64 0,.int .u64 0,.int .u64 0]),(89,7,56,.agg #[.int .i64 0,.int .u64 0,.int .u64 0,.int .u64 0,.int .u64 0,.int .i64 0,.int .i64 0]),(102,1,24,.slice none 0 0),(114,1,8,.pointer none),(115,2,32,.agg #[.slice none 0 0,.pointer none]),(116,1,24,.slice none 0 0),(131,8,64,.agg #[.int .i64 0,.int .i64 0,.int .u64 0,.int .u64 0,.int .u64 0,.int .u64 0,.int .i64 0,.int .i64 0]),(140,1,8,.pointer none),(142,2,16,.agg #[.int .i64 0,.int .i64 0]),(143,1,24,.slice none 0 0),(145,3,56,.agg #[.slice none 0 0,.slice none 0 0,.bool false]),(147,1,8,.pointer none),(149,2,48,.agg #[.slice none 0 0,.slice none 0 0]),(151,1,24,.slice none 0 0),(153,3,40,.agg #[.slice none 0 0,.int .i64 0,.int .i64 0]),(164,1,24,.slice none 0 0),(165,1,8,.int .u64 0),(168,7,48,.agg #[.int .u64 0,.int .u64 0,.int .u64 0,.int .u64 0,.int .i64 0,.bool false,.bool false]),(177,6,48,.agg #[.int .u64 0,.int .u64 0,.int .u64 0,.int .u64 0,.int .i64 0,.int .i64 0]),(187,1,8,.pointer none),(189,2,48,.agg #[.slice none 0 0,.slice none 0 0]),(193,7,56,.agg #[.int .i64 0,.int .i64 0,.int .i64 0,.int .u64 0,.int .u64 0,.int .u64 0,.int .u64 0]),(196,1,8,.pointer none),(197,1,8,.map none),(198,1,24,.slice none 0 0),(200,6,80,.agg #[.slice none 0 0,.int .i64 0,.int .i64 0,.int .i64 0,.slice none 0 0,.map none]),(209,3,40,.agg #[.slice none 0 0,.int .i64 0,.int .i64 0]),(232,1,24,.slice none 0 0),(242,1,8,.pointer none),(244,1,24,.slice none 0 0),(245,1,24,.slice none 0 0),(247,5,120,.agg #[.slice none 0 0,.slice none 0 0,.slice none 0 0,.slice none 0 0,.slice none 0 0]),(249,2,16,.agg #[.int .i64 0,.int .i64 0]),(254,1,8,.map none),(256,2,16,.agg #[.int .i64 0,.int .i64 0]),(258,1,8,.map none),(277,1,8,.map none),(281,64,64,.agg #[.int .u8 0,.int .u8 0,.int .u8 0,.int .u8 0,.int .u8 0,.int .u8 0,.int .u8 0,.int .u8 0,.int .u8 0,.int .u8 0,.int .u8 0,.int .u8 0,.int .u8 0,.int .u8 0,.int .u8 0,.int .u8 0,.int .u8 0,.int .u8 0,.int .u8 0,.int .u8 0,.int .u8 0,.int .u8 0,.int .u8 0,.int .u8 0,.int .u8 0,.int .u8 0,.int .u8 0,.int .u8 0,.int .u8 0,.int .u8 0,.int .u8 0,.int .u8 0,.int .u8 0,.int .u8 0,.int .u8 0,.int .u8 0,.int .u8 0,.int .u8 0,.int .u8 0,.int .u8 0,.int .u8 0,.int .u8 0,.int .u8 0,.int .u8 0,.int .u8 0,.int .u8 0,.int .u8 0,.int .u8 0,.int .u8 0,.int .u8 0,.int .u8 0,.int .u8 0,.int .u8 0,.int .u8 0,.int .u8 0,.int .u8 0,.int .u8 0,.int .u8 0,.int .u8 0,.int .u8 0,.int .u8 0,.int .u8 0,.int .u8 0,.int .u8 0]),(285,1,24,.slice none 0 0),(287,1,24,.slice none 0 0),(289,2,40,.agg #[.string ⟨#[]⟩,.slice none 0 0]),(303,2,2,.agg #[.int .u8 0,.int .u8 0])]
  hs:=by kernel_rfl
  f:=[(28,0,0,1,false),(28,1,1,1,false),(28,2,2,1,false),(28,3,3,1,false),(28,4,4,1,false),(30,0,0,1,false),(30,1,1,5,true),(30,2,6,5,true),(30,3,11,5,true),(89,0,0,1,false),(89,1,1,4,true),(89,2,5,1,false),(89,3,6,1,false),(115,0,0,1,false),(115,1,1,1,false),(131,0,0,1,false),(131,1,1,1,false),(131,2,2,4,true),(131,3,6,1,false),(131,4,7,1,false),(142,0,0,1,false),(142,1,1,1,false),(145,0,0,1,false),(145,1,1,1,false),(145,2,2,1,false),(149,0,0,1,false),(149,1,1,1,false),(153,0,0,1,false),(153,1,1,1,false),(153,2,2,1,false),(168,0,0,4,true),(168,1,4,1,false),(168,2,5,1,false),(168,3,6,1,false),(177,0,0,4,true),(177,1,4,1,false),(177,2,5,1,false),(189,0,0,1,false),(189,1,1,1,false),(193,0,0,1,false),(193,1,1,1,false),(193,2,2,1,false),(193,3,3,4,true),(200,0,0,3,true),(200,1,3,1,false),(200,2,4,1,false),(200,3,5,1,false),(209,0,0,1,false),(209,1,1,1,false),(209,2,2,1,false),(247,0,0,1,false),(247,1,1,1,false),(247,2,2,1,false),(247,3,3,1,false),(247,4,4,1,false),(249,0,0,1,false),(249,1,1,1,false),(256,0,0,1,false),(256,1,1,1,false),(289,0,0,1,false),(289,1,1,1,false),(303,0,0,1,false),(303,1,1,1,false)]
  hf:=by kernel_rfl
  c:=[9,10,11,12,13,15,18,19,20,32,33,34,35,36,37,38,39,41,42,43,44,49,50,51,52,53,54,55,56,57,58,59,60,61,62,63,65,69,70,71,72,73,74,76,77,78,79,80,81,82,83,84,85,86,87,88,89,90,91,92,93,94,95,96,97,98,99,100,101,102,103,104,105,106,107,108,109,110,111,112,113,114,115,116,117,118,119,120,121,122,123,124,125,126,127,128,129,130,131,133,134,135,136,137,138,139,140,141,142,143,144,145,146,147,148,149,150,151,152,153,154,155,156,157,158,159,160,162,163,164,165,166,167,168,169,170,171,172,174,175,176,177,178,179,180,181,182,183,184,185,186,187,188,189,190,191,192,193,194,196,197,203,204]
  hc:=U4 iX
  mx:=by kernel_rfl
theorem TH (x:BitVec 64) (y:BitVec 64) (w:World):
 Calls Tryz.prog 173 #[av x,av y] w (bj fun v w'=>v=av (x|||y)∧aE w [] w' []):=by
 refine cL Tryz.func173 (h:=fun H0=>?_)
 exact aR 9 rfl (C0 (a:=x) (b:=y) rfl rfl (bE 4 (h:=⟨rfl,H0.ag⟩)))
theorem PY (x:BitVec 64) (y:BitVec 64) (w:World):
 Calls Tryz.prog 75 #[av x,av y] w (bj fun v w'=>v=av (~~~x)∧aE w [] w' []):=by
 refine cL Tryz.func75 (h:=fun H0=>?_)
 exact aR 8 rfl (US (a:=x) rfl (bE 4 (h:=⟨rfl,H0.ag⟩)))
theorem IY (a:Bs) (b:Bs) (w:World):
 Calls Tryz.prog 74 #[.agg #[av a.w0,av a.w1,av a.w2,av a.w3],.agg #[av b.w0,av b.w1,av b.w2,av b.w3],.func (.func 173) #[] #[]] w (bj fun v w'=>v= .agg #[av (sw a b).w0,av (sw a b).w1,av (sw a b).w2,av (sw a b).w3]∧aE w [] w' []):=by
 refine cL Tryz.func74 (h:=fun H0=>ae 2 (h:=gI H0 (k:=fun w1 H1=>ae 0 (h:=gI H1 (k:=fun w2 H2=>ae 0 (h:=da H2 (k:=fun w3 H3=>cY 9 [8,6,4,3,2] (fun B R L m e v=>∃k,∃r:Bs,e=(8,bJ k)::B∧aA w L v ([bm w.heap.size #[av r.w0,av r.w1,av r.w2,av r.w3] 87]::R)∧(k≤4)∧(∀j,j<4→r.get j=if j<k then (fun p q=>p|||q) (a.get j) (b.get j) else a.get j)∧m=4-k) (i:=⟨0,a,rfl,H3,om,(by intro j hj;rw [if_neg oz]),rfl⟩) (h:=?_))))))))
 rintro m1 Γ1 w4 ⟨k,r,rfl,H4,hk,hr,rfl⟩
 refine aL 6 (fun Ak=>?_) fun Ak=>?_
 refine eI 10 H4 (h:=fun w5 H5=>?_)
 refine mN 3 3 ⟨_,_,_,rfl,rfl,rfl,rfl,rfl,rfl⟩ (fun _=>fX (j:=k) Tryz.underlying87 km rfl rfl oz ⟨rfl,rfl⟩) ?_
 refine Ox 0 4 (H5.b 0) ⟨_,_,_,rfl,rfl,rfl,rfl,rfl,rfl⟩ (fun _ hC=>jr r Tryz.underlying85 rfl rfl hC oz ⟨rfl,rfl⟩) ?_
 refine mN 1 6 ⟨_,_,_,rfl,rfl,rfl,rfl,rfl,rfl⟩ (fun _=>fX (j:=k) Tryz.underlying87 km rfl rfl oz ⟨rfl,rfl⟩) ?_
 refine Ox 0 7 (H5.b 1) ⟨_,_,_,rfl,rfl,rfl,rfl,rfl,rfl⟩ (fun _ hC=>jr b Tryz.underlying85 rfl rfl hC oz ⟨rfl,rfl⟩) ?_
 refine vQ 0 8 ⟨_,_,_,rfl,rfl,rfl,rfl,rfl,rfl⟩ (kS abv rfl rfl (bj.calls (TH (r.get k) (b.get k) w5) fun _ w6 p1=>?_))
 obtain ⟨rfl,u4⟩:=p1
 have H6:=H5.call u4
 refine ⟨⟨trivial,trivial⟩,?_⟩
 refine mN 0 9 ⟨_,_,_,rfl,rfl,rfl,rfl,rfl,rfl⟩ (fun _=>fX (j:=k) Tryz.underlying87 km rfl rfl oz ⟨rfl,rfl⟩) ?_
 refine vQ 0 10 ⟨_,_,_,rfl,rfl,rfl,rfl,rfl,rfl⟩ (nB r ((r.get k)|||(b.get k)) km rfl rfl (H6.b 0) oz fun w7 u5=>?_)
 have H7:=H6.un 0 u5
 refine ⟨trivial,?_⟩
 exact ae 4 (h:=aX (k:=b6 2 (h:=by exact ⟨k+1,(r.put k ((r.get k)|||(b.get k))),rfl,H7,om,(by exact Bz (F:=fun p q=>p|||q) (b:=b) oz hr),rfl⟩)))
 refine ae 4 (h:=b8 (H4.b 0) (k:=aU 0 (h:=bC H4 2 (k:=fun w8 H8=>nG 3 (h1:=cK (H8.b 2)) (h:=?_)))))
 have e:=BA (F:=fun p q=>p|||q) (a:=a) (b:=b) (q:=sw a b) oz hr (fun j hj=>Kl a b hj)
 exact ⟨(by rw [e]),H8.ag⟩
theorem F7 (a:Bs) (b:Bs) (w:World):
 Calls Tryz.prog 74 #[.agg #[av a.w0,av a.w1,av a.w2,av a.w3],.agg #[av b.w0,av b.w1,av b.w2,av b.w3],.func (.func 75) #[] #[]] w (bj fun v w'=>v= .agg #[av (gF a).w0,av (gF a).w1,av (gF a).w2,av (gF a).w3]∧aE w [] w' []):=by
 refine cL Tryz.func74 (h:=fun H0=>ae 2 (h:=gI H0 (k:=fun w1 H1=>ae 0 (h:=gI H1 (k:=fun w2 H2=>ae 0 (h:=da H2 (k:=fun w3 H3=>cY 9 [8,6,4,3,2] (fun B R L m e v=>∃k,∃r:Bs,e=(8,bJ k)::B∧aA w L v ([bm w.heap.size #[av r.w0,av r.w1,av r.w2,av r.w3] 87]::R)∧(k≤4)∧(∀j,j<4→r.get j=if j<k then (fun p _=> ~~~p) (a.get j) (b.get j) else a.get j)∧m=4-k) (i:=⟨0,a,rfl,H3,om,(by intro j hj;rw [if_neg oz]),rfl⟩) (h:=?_))))))))
 rintro m1 Γ1 w4 ⟨k,r,rfl,H4,hk,hr,rfl⟩
 refine aL 6 (fun Ak=>?_) fun Ak=>?_
 refine eI 10 H4 (h:=fun w5 H5=>?_)
 refine mN 3 3 ⟨_,_,_,rfl,rfl,rfl,rfl,rfl,rfl⟩ (fun _=>fX (j:=k) Tryz.underlying87 km rfl rfl oz ⟨rfl,rfl⟩) ?_
 refine Ox 0 4 (H5.b 0) ⟨_,_,_,rfl,rfl,rfl,rfl,rfl,rfl⟩ (fun _ hC=>jr r Tryz.underlying85 rfl rfl hC oz ⟨rfl,rfl⟩) ?_
 refine mN 1 6 ⟨_,_,_,rfl,rfl,rfl,rfl,rfl,rfl⟩ (fun _=>fX (j:=k) Tryz.underlying87 km rfl rfl oz ⟨rfl,rfl⟩) ?_
 refine Ox 0 7 (H5.b 1) ⟨_,_,_,rfl,rfl,rfl,rfl,rfl,rfl⟩ (fun _ hC=>jr b Tryz.underlying85 rfl rfl hC oz ⟨rfl,rfl⟩) ?_
 refine vQ 0 8 ⟨_,_,_,rfl,rfl,rfl,rfl,rfl,rfl⟩ (kS af3 rfl rfl (bj.calls (PY (r.get k) (b.get k) w5) fun _ w6 p1=>?_))
 obtain ⟨rfl,u4⟩:=p1
 have H6:=H5.call u4
 refine ⟨⟨trivial,trivial⟩,?_⟩
 refine mN 0 9 ⟨_,_,_,rfl,rfl,rfl,rfl,rfl,rfl⟩ (fun _=>fX (j:=k) Tryz.underlying87 km rfl rfl oz ⟨rfl,rfl⟩) ?_
 refine vQ 0 10 ⟨_,_,_,rfl,rfl,rfl,rfl,rfl,rfl⟩ (nB r (~~~(r.get k)) km rfl rfl (H6.b 0) oz fun w7 u5=>?_)
 have H7:=H6.un 0 u5
 refine ⟨trivial,?_⟩
 exact ae 4 (h:=aX (k:=b6 2 (h:=by exact ⟨k+1,(r.put k (~~~(r.get k))),rfl,H7,om,(by exact Bz (F:=fun p _=> ~~~p) (b:=b) oz hr),rfl⟩)))
 refine ae 4 (h:=b8 (H4.b 0) (k:=aU 0 (h:=bC H4 2 (k:=fun w8 H8=>nG 3 (h1:=cK (H8.b 2)) (h:=?_)))))
 have e:=BA (F:=fun p _=> ~~~p) (a:=a) (b:=b) (q:=gF a) oz hr (fun j hj=>E9 a hj)
 exact ⟨(by rw [e]),H8.ag⟩
theorem Cb (a:Bs) (b:Bs) (w:World):
 Calls Tryz.prog 142 #[.agg #[av a.w0,av a.w1,av a.w2,av a.w3],.agg #[av b.w0,av b.w1,av b.w2,av b.w3]] w (bj fun v w'=>v= .agg #[av (sw a b).w0,av (sw a b).w1,av (sw a b).w2,av (sw a b).w3]∧aE w [] w' []):=by
 refine cL Tryz.func142 (h:=fun H0=>ae 2 (h:=gI H0 (k:=fun w1 H1=>ae 0 (h:=gI H1 (k:=fun w2 H2=>ae 0 (h:=da H2 (k:=fun w3 H3=>ae 4 (h:=b8 (H3.b 0) (k:=ae 0 (h:=b8 (H3.b 1) (k:=ae 0 (h:=aM (c:=IY a b w3) (k:=?_)))))))))))))
 rintro _ w4 ⟨rfl,u4⟩
 have H4:=H3.call u4
 exact aU 0 (h:=bC H4 2 (k:=fun w5 H5=>nG 3 (h1:=cK (H5.b 2)) (h:=⟨rfl,H5.ag⟩)))
theorem p9 (a:Bs) (w:World):
 Calls Tryz.prog 44 #[.agg #[av a.w0,av a.w1,av a.w2,av a.w3]] w (bj fun v w'=>v= .agg #[av (gF a).w0,av (gF a).w1,av (gF a).w2,av (gF a).w3]∧aE w [] w' []):=by
 refine cL Tryz.func44 (h:=fun H0=>ae 2 (h:=gI H0 (k:=fun w1 H1=>ae 0 (h:=da H1 (k:=fun w2 H2=>ae 4 (h:=b8 (H2.b 0) (k:=ae 0 (h:=b8 (H2.b 0) (k:=ae 0 (h:=aM (c:=F7 a a w2) (k:=?_)))))))))))
 rintro _ w3 ⟨rfl,u3⟩
 have H3:=H2.call u3
 exact aU 0 (h:=bC H3 1 (k:=fun w4 H4=>nG 3 (h1:=cK (H4.b 1)) (h:=⟨rfl,H4.ag⟩)))
theorem nR (ba:aO) (b:List Nat) (bc:Nat) (bn:Nat) (w:World) (rb:bH fh w (.slice ba bn bc) b) (hb:∀c,c∈b→c<256):
 Calls Tryz.prog 100 #[.slice ba bn bc] w (bj fun v w'=>v= .agg #[av (gU b).w0,av (gU b).w1,av (gU b).w2,av (gU b).w3]∧aE w [] w' []):=by
 obtain rfl:bn=b.length:=rb.len
 have abJ:=rb.le
 refine cL Tryz.func100 (h:=fun H0=>ae 2 (h:=da H0 (k:=fun w1 H1=>ae 4 (h:=da H1 (k:=fun w2 H2=>?_)))))
 have H3:=H2.ps [1,0]
 refine cY 11 [8,7,6,3,2] (fun B R L m e v=>∃k,∃r:Bs,e=(8,bJ k)::B∧aA w L v ([bm w1.heap.size #[av r.w0,av r.w1,av r.w2,av r.w3] 87]::R)∧(k≤b.length)∧(r=(b.take k).foldl kB Bs.zero)∧m=b.length-k) (i:=⟨0,Bs.zero,rfl,H3,om,rfl,rfl⟩) (h:=?_)
 rintro m1 Γ1 w3 ⟨k,r,rfl,H4,hk,hr,rfl⟩
 refine aL 6 (fun c13=>?_) fun c13=>?_
 refine ae 6 (h:=bU k (rb.at H4) (k:=ae 0 (h:=cn (rb.at H4) (k:=?_))))
 have hc:=hb _ (au (d:=0) (show k<b.length by omega))
 refine aR 5 rfl (I1 (m:=b.getD k 0) dF rfl rfl ?_)
 refine aR 0 rfl (fX (j:=((b.getD k 0)/64)) Tryz.underlying87 km rfl rfl oz ?_)
 refine aR 0 rfl (jr r Tryz.underlying85 rfl rfl (H4.b 0) oz ?_)
 refine aR 1 rfl (C3 (m:=b.getD k 0) oz dF rfl rfl ?_)
 refine aR 0 rfl (CZ (a:=1#64) (n:=(b.getD k 0)%64) rfl rfl oz ?_)
 refine aR 0 rfl (C0 (a:=r.get ((b.getD k 0)/64)) (b:=(1#64)<<<((b.getD k 0)%64)) rfl rfl ?_)
 refine aR 0 rfl (fX (j:=((b.getD k 0)/64)) Tryz.underlying87 km rfl rfl oz ?_)
 refine Cd 0 rfl (nB r ((r.get ((b.getD k 0)/64))|||((1#64)<<<((b.getD k 0)%64))) km rfl rfl (H4.b 0) oz fun w4 u3=>?_)
 have H5:=H4.un 0 u3
 exact ae 4 (h:=aX (k:=b6 2 (h:=by exact ⟨k+1,(r.put ((b.getD k 0)/64) ((r.get ((b.getD k 0)/64))|||((1#64)<<<((b.getD k 0)%64)))),rfl,H5,om,(by rw [Hb oz,←hr];rfl),rfl⟩)))
 refine ae 4 (h:=b8 (H4.b 0) (k:=aU 0 (h:=bC H4 1 (k:=fun w5 H6=>nG 3 (h1:=cK (H6.b 1)) (h:=?_)))))
 have e:r=gU b:=by rw [hr,List.take_of_length_le oz];rfl
 exact ⟨(by rw [e]),H6.ag⟩
theorem KZ (s:Bs) (b:Nat) (w:World) (hb:b<256):
 Calls Tryz.prog 175 #[.agg #[av s.w0,av s.w1,av s.w2,av s.w3],.int .u8 ((b:Nat):Int)] w (bj fun v w'=>v= .bool (s.has b)∧aE w [] w' []):=by
 refine cL Tryz.func175 (h:=fun H0=>ae 2 (h:=gI H0 (k:=fun w1 H1=>?_)))
 refine aR 6 rfl (I1 (m:=b) dF rfl rfl ?_)
 refine aR 0 rfl (fX (j:=(b/64)) Tryz.underlying87 km rfl rfl oz ?_)
 refine aR 0 rfl (jr s Tryz.underlying85 rfl rfl (H1.b 0) oz ?_)
 refine aR 1 rfl (C3 (m:=b) oz dF rfl rfl ?_)
 refine aR 0 rfl (CY (a:=s.get (b/64)) (n:=b%64) rfl rfl oz ?_)
 refine aR 0 rfl (wU (a:=(s.get (b/64))>>>(b%64)) (b:=1#64) rfl rfl ?_)
 exact aR 0 rfl (I5 (a:=((s.get (b/64))>>>(b%64))&&&(1#64)) (b:=1#64) rfl rfl (bE 4 (h:=⟨(by rw [KX]),H1.ag⟩)))
theorem ke (s:Bs) (b:Nat) (w:World) (hb:b<256):
 Calls Tryz.prog 65 #[.agg #[av s.w0,av s.w1,av s.w2,av s.w3],bJ b] w (bj fun v w'=>v= .bool (s.has b)∧aE w [] w' []):=by
 refine cL Tryz.func65 (h:=fun H0=>ae 2 (h:=gI H0 (k:=fun w1 H1=>?_)))
 refine aR 6 rfl (Rg rfl rfl oz oz oz ?_)
 refine aR 0 rfl (fX (j:=(b/64)) Tryz.underlying87 km rfl rfl oz ?_)
 refine aR 0 rfl (jr s Tryz.underlying85 rfl rfl (H1.b 0) oz ?_)
 refine aR 1 rfl (Rf rfl rfl oz oz (ae 0 (h:=kT (k:=?_))))
 refine aR 0 rfl (CY (a:=s.get (b/64)) (n:=b%64) rfl rfl oz ?_)
 refine aR 0 rfl (wU (a:=(s.get (b/64))>>>(b%64)) (b:=1#64) rfl rfl ?_)
 exact aR 0 rfl (I5 (a:=((s.get (b/64))>>>(b%64))&&&(1#64)) (b:=1#64) rfl rfl (bE 4 (h:=⟨(by rw [KX]),H1.ag⟩)))
theorem pe (s:Bs) (bI:Int) (b:Nat) (w:World) (YO:bI=((b:Nat):Int)) (hb:b<256):
 Calls Tryz.prog 118 #[.agg #[av s.w0,av s.w1,av s.w2,av s.w3],ak bI] w (bj fun v w'=>v= .agg #[av (kB s b).w0,av (kB s b).w1,av (kB s b).w2,av (kB s b).w3]∧aE w [] w' []):=by
 subst YO
 refine cL Tryz.func118 (h:=fun H0=>ae 2 (h:=gI H0 (k:=fun w1 H1=>ae 0 (h:=da H1 (k:=fun w2 H2=>?_)))))
 refine aR 5 rfl (Rg rfl rfl oz oz oz ?_)
 refine aR 1 rfl (Rg rfl rfl oz oz oz ?_)
 refine aR 0 rfl (fX (j:=(b/64)) Tryz.underlying87 km rfl rfl oz ?_)
 refine aR 0 rfl (jr s Tryz.underlying85 rfl rfl (H2.b 0) oz ?_)
 refine aR 1 rfl (Rf rfl rfl oz oz (ae 0 (h:=kT (k:=?_))))
 refine aR 0 rfl (CZ (a:=1#64) (n:=b%64) rfl rfl oz ?_)
 refine aR 0 rfl (C0 (a:=s.get (b/64)) (b:=(1#64)<<<(b%64)) rfl rfl ?_)
 refine aR 0 rfl (fX (j:=(b/64)) Tryz.underlying87 km rfl rfl oz ?_)
 refine Cd 0 rfl (nB s ((s.get (b/64))|||((1#64)<<<(b%64))) km rfl rfl (H2.b 0) oz fun w3 u3=>?_)
 have H3:=H2.un 0 u3
 exact ae 4 (h:=b8 (H3.b 0) (k:=aU 0 (h:=bC H3 1 (k:=fun w4 H4=>nG 3 (h1:=cK (H4.b 1)) (h:=⟨rfl,H4.ag⟩)))))
theorem UW (x:BitVec 64) (w:World) (rT:cd fh w (some ⟨0,0,none⟩) rG 64):
 Calls Tryz.prog 176 #[av x] w (bj fun v w'=>v=bJ (ctz x)∧aE w [] w' []):=by
 have kH:=rT.le
 refine cL Tryz.func176 (h:=fun H0=>?_)
 refine aR 9 rfl (I5 (a:=x) (b:=0#64) rfl rfl (aL 2 (fun G2=>?_) fun G2=>?_))
 exact bE 6 (h:=⟨(by rw [show ctz x=64 from if_pos G2];rfl),H0.ag⟩)
 refine aR 6 rfl (UQ (a:=x) rfl ?_)
 refine aR 0 rfl (wU (a:=x) (b:= -x) rfl rfl ?_)
 refine aR 0 rfl (UR (a:=x&&&(-x)) (b:=285870213051353865#64) rfl rfl ?_)
 refine aR 0 rfl (CY (a:=(x&&&(-x))*(285870213051353865#64)) (n:=58) rfl rfl (by first|omega|exact RD (Nat.lt_trans (Q8 _) (by decide))) ?_)
 exact aR 0 rfl (Y1 (n:=rG.length) (c:=64) (j:=((((x&&&(-x))*(285870213051353865#64))>>>58).toNat)) Tryz.underlying281 sz5 rfl (by first|exact J2 _|(rw [wT];exact J2 _)) (ae 0 (h:=cn (rT.at H0) (hj:=(by first|exact J2 _|(rw [wT];exact J2 _))) (k:=ae 0 (h:=kT (h:=(by first|omega|exact RD (Nat.lt_trans (Q8 _) (by decide)))) (k:=bE 4 (h:=⟨(by rw [show ctz x=_ from if_neg G2]),H0.ag⟩)))))))
theorem BD (s:Bs) (w:World) (rT:cd fh w (some ⟨0,0,none⟩) rG 64):
 Calls Tryz.prog 146 #[.agg #[av s.w0,av s.w1,av s.w2,av s.w3]] w (bj fun v w'=>∃a2,∃c2:Nat,v=aG a2 (bK s) c2∧aE w [] w' [cg fh 5 a2 (bK s) c2]):=by
 have kH:=rT.le
 refine cL Tryz.func146 (h:=fun H0=>ae 2 (h:=gI H0 (k:=fun w1 H1=>ae 11 (h:=b8 (H1.b 0) (k:=?_)))))
 have H2:=H1.nr fh 5
 have H3:=H2.ps [1,0]
 refine cY 4 [7,3,6,2] (fun B R L m e v=>∃k,∃o:List Nat,∃a c,e=(7,bJ k)::(3,aG a o c)::B∧aA w L v ([cg fh 5 a o c]::R)∧(k≤4)∧(o=Dh s k)∧m=4-k) (i:=⟨0,([]:List Nat),none,0,rfl,H3,om,rfl,rfl⟩) (h:=?_)
 rintro m1 Γ1 w2 ⟨k,o,a,c,rfl,H4,hk,ho,rfl⟩
 refine aL 6 (fun Gk=>?_) fun Gk=>?_
 refine aR 7 rfl (Rr (j:=k) s Tryz.underlying87 Tryz.underlying85 rfl km rfl rfl oz (cY 5 [5,3,4,7,6,2] (fun B R L m e v=>∃x:BitVec 64,∃o2:List Nat,∃a3 c3,e=(5,av x)::(3,aG a3 o2 c3)::B∧aA w L v ([cg fh 5 a3 o2 c3]::R)∧(o2++(mv x).map (fun b=>k*64+b)=Dh s (k+1))∧m=x.toNat) (i:=⟨s.get k,o,a,c,rfl,H4,(by rw [ho];exact (BF s k).symm),rfl⟩) (h:=?_)))
 rintro m2 Γ2 w3 ⟨x,o2,a3,c3,rfl,H5,hx,rfl⟩
 refine aR 4 rfl (Y3 (a:=x) (b:=0#64) rfl rfl (aL 2 (fun U8=>?_) fun U8=>?_))
 have hz:=Y4 U8
 have vu:=congrArg List.length hx
 have KP:=Gr s (k+1)
 simp only [List.length_append,List.length_map] at vu
 refine ae 7 (h:=GP (k:=ae 1 (h:=aM (c:=UW x w3 (rT.at H5)) (k:=?_))))
 rintro _ w4 ⟨rfl,u2⟩
 have H6:=H5.call u2
 refine ae 0 (h:=aX (k:=ae 0 (h:=kT (k:=ae 0 (h:=db fh [(k*64)+(ctz x)] H6 (k:=fun w5 H7=>ae 0 (h:=fT H7 0 (H7.rt 2) (k:=fun a1 c1 w6 Vs=>?_))))))))
 have H8:=(Vs.drop 2).no
 refine aR 7 rfl (UP (a:=x) (b:=1#64) rfl rfl ?_)
 exact aR 0 rfl (wU (a:=x) (b:=x-(1#64)) rfl rfl (b6 2 (h:=by exact ⟨x&&&(x-(1#64)),o2++[(k*64)+(ctz x)],a1,c1,rfl,(H8.re rfl),(by rw [←hx,Nz U8,List.map_cons,List.append_assoc];rfl),rfl⟩) (hm:=(by exact Xr U8))))
 exact ae 4 (h:=aX (k:=b6 2 (h:=by exact ⟨k+1,o2,a3,c3,rfl,H5,om,(by have e0:x=0#64:=Classical.byContradiction U8;rw [e0,Jr] at hx;simpa using hx),rfl⟩)))
 refine bE 9 (h:=?_)
 have e:o=bK s:=by rw [ho,show k=4 by omega];exact Zt s
 rw [e] at H4
 exact ⟨a,c,(by rw [e]),(by have hh:=H4.iz 0;exact hh)⟩
theorem A2 (q1:Nat) (q2:Nat) (w:World) (DG:q1<256) (M0:q2<256):
 Calls Tryz.prog 172 #[.int .u8 ((q1:Nat):Int),.int .u8 ((q2:Nat):Int)] w (bj fun v w'=>v= .agg #[av (bM q1 q2).w0,av (bM q1 q2).w1,av (bM q1 q2).w2,av (bM q1 q2).w3]∧aE w [] w' []):=by
 refine cL Tryz.func172 (h:=fun H0=>ae 2 (h:=da H0 (k:=fun w1 H1=>ae 4 (h:=da H1 (k:=fun w2 H2=>ae 6 (h:=kT (k:=?_)))))))
 have H3:=H2.ps [1,0]
 refine cY 4 [6,5,4,1] (fun B R L m e v=>∃c,∃r:Bs,e=(6,bJ c)::B∧aA w L v ([bm w1.heap.size #[av r.w0,av r.w1,av r.w2,av r.w3] 87]::R)∧(q1≤c∧(c≤q2+1∨c=q1))∧(r=(List.range' q1 (c-q1)).foldl kB Bs.zero)∧m=q2+1-c) (i:=⟨q1,Bs.zero,rfl,H3,om,(by simp),rfl⟩) (h:=?_)
 rintro m1 Γ1 w3 ⟨c,r,rfl,H4,hc,hr,rfl⟩
 refine ae 5 (h:=kT (k:=aL 3 (fun mr=>?_) fun mr=>?_))
 refine eI 4 H4 (h:=fun w4 H5=>?_)
 refine mN 1 1 ⟨_,_,_,rfl,rfl,rfl,rfl,rfl,rfl⟩ (fun _=>I1 (m:=c) dF rfl rfl ⟨rfl,rfl⟩) ?_
 refine mN 0 2 ⟨_,_,_,rfl,rfl,rfl,rfl,rfl,rfl⟩ (fun _=>fX (j:=(c/64)) Tryz.underlying87 km rfl rfl oz ⟨rfl,rfl⟩) ?_
 refine Ox 0 3 (H5.b 0) ⟨_,_,_,rfl,rfl,rfl,rfl,rfl,rfl⟩ (fun _ hC=>jr r Tryz.underlying85 rfl rfl hC oz ⟨rfl,rfl⟩) ?_
 refine mN 1 5 ⟨_,_,_,rfl,rfl,rfl,rfl,rfl,rfl⟩ (fun _=>C3 (m:=c) oz dF rfl rfl ⟨rfl,rfl⟩) ?_
 refine mN 0 6 ⟨_,_,_,rfl,rfl,rfl,rfl,rfl,rfl⟩ (fun _=>CZ (a:=1#64) (n:=c%64) rfl rfl oz ⟨rfl,rfl⟩) ?_
 refine mN 0 7 ⟨_,_,_,rfl,rfl,rfl,rfl,rfl,rfl⟩ (fun _=>C0 (a:=r.get (c/64)) (b:=(1#64)<<<(c%64)) rfl rfl ⟨rfl,rfl⟩) ?_
 refine mN 0 8 ⟨_,_,_,rfl,rfl,rfl,rfl,rfl,rfl⟩ (fun _=>fX (j:=(c/64)) Tryz.underlying87 km rfl rfl oz ⟨rfl,rfl⟩) ?_
 refine vQ 0 9 ⟨_,_,_,rfl,rfl,rfl,rfl,rfl,rfl⟩ (nB r ((r.get (c/64))|||((1#64)<<<(c%64))) km rfl rfl (H5.b 0) oz fun w5 u3=>?_)
 have H6:=H5.un 0 u3
 refine ⟨trivial,?_⟩
 exact ae 5 (h:=aX (k:=b6 2 (h:=by exact ⟨c+1,(r.put (c/64) ((r.get (c/64))|||((1#64)<<<(c%64)))),rfl,H6,om,(by rw [show c+1-q1=(c-q1)+1 by omega,xR,←hr,show q1+(c-q1)=c by omega];rfl),rfl⟩)))
 refine ae 4 (h:=b8 (H4.b 0) (k:=aU 0 (h:=bC H4 1 (k:=fun w6 H7=>nG 3 (h1:=cK (H7.b 1)) (h:=?_)))))
 have e:r=bM q1 q2:=by rw [hr];unfold bM;rw [show c-q1=q2+1-q1 by omega]
 exact ⟨(by rw [e]),H7.ag⟩
theorem LF (la:aO) (l:List Rn) (lc:Nat) (ln:Nat) (w:World) (rl:bH qy w (.slice la ln lc) l) (hb:∀r,r∈l→r.lo<256∧r.hi<256):
 Calls Tryz.prog 204 #[.slice la ln lc] w (bj fun v w'=>v= .agg #[av (nJ l).w0,av (nJ l).w1,av (nJ l).w2,av (nJ l).w3]∧aE w [] w' []):=by
 obtain rfl:ln=l.length:=rl.len
 have dD:=rl.le
 refine cL Tryz.func204 (h:=fun H0=>ae 2 (h:=da H0 (k:=fun w1 H1=>ae 4 (h:=da H1 (k:=fun w2 H2=>?_)))))
 have H3:=H2.ps [1,0]
 refine cY 11 [8,7,6,3,2] (fun B R L m e v=>∃k,∃r:Bs,e=(8,bJ k)::B∧aA w L v ([bm w1.heap.size #[av r.w0,av r.w1,av r.w2,av r.w3] 87]::R)∧(k≤l.length)∧(r=(l.take k).foldl (fun s q=>sw s (bM q.lo q.hi)) Bs.zero)∧m=l.length-k) (i:=⟨0,Bs.zero,rfl,H3,om,rfl,rfl⟩) (h:=?_)
 rintro m1 Γ1 w3 ⟨k,r,rfl,H4,hk,hr,rfl⟩
 refine aL 6 (fun c87=>?_) fun c87=>?_
 refine ae 6 (h:=fI k (rl.at H4) (k:=ae 0 (h:=zt (rl.at H4) (k:=ae 0 (h:=da H4 (k:=fun w4 H5=>aU 0 (h:=bC H5 2 (k:=fun w5 H6=>?_))))))))
 have KW:=hb _ (au (d:=⟨0,0⟩) (show k<l.length by omega))
 refine eI 2 H6 (h:=fun w6 H7=>cP 0 0 (H7.b 0) (D:=fun _ hC=>b8 hC) (h:=cP 1 2 (H7.b 2) (D:=fun _ hC=>aH hC) (h:=cP 1 4 (H7.b 2) (D:=fun _ hC=>aH hC) (h:=c7 0 5 (D:=aM (c:=A2 ((l.getD k ⟨0,0⟩).lo) ((l.getD k ⟨0,0⟩).hi) w6 KW.1 KW.2) (k:=?_))))))
 rintro _ w7 ⟨rfl,u5⟩
 have H8:=H7.call u5
 refine ⟨⟨(H8.b 0),trivial⟩,?_⟩
 refine c7 0 6 (D:=aM (c:=Cb r (bM ((l.getD k ⟨0,0⟩).lo) ((l.getD k ⟨0,0⟩).hi)) w7) (k:=?_))
 rintro _ w8 ⟨rfl,u6⟩
 have H9:=H8.call u6
 refine ⟨trivial,?_⟩
 refine c7 0 7 (D:=bC H9 0 (k:=fun w9 bO=>?_))
 refine ⟨trivial,?_⟩
 exact ae 4 (h:=aX (k:=b6 2 (h:=by exact ⟨k+1,(sw r (bM ((l.getD k ⟨0,0⟩).lo) ((l.getD k ⟨0,0⟩).hi))),rfl,(bO.pm [0,1] rfl rfl),om,(by rw [G8 oz,←hr]),rfl⟩)))
 refine ae 4 (h:=b8 (H4.b 0) (k:=aU 0 (h:=bC H4 1 (k:=fun gK bR=>nG 3 (h1:=cK (bR.b 1)) (h:=?_)))))
 have e:r=nJ l:=by rw [hr,List.take_of_length_le oz];rfl
 exact ⟨(by rw [e]),bR.ag⟩
set_option maxHeartbeats 4000000 in
theorem OY (w:World):
 Calls Tryz.prog 203 #[] w (bj fun v w'=>∃a,∃l:List NR,∃c,v=aG a l c∧aE w [] w' [cg WW 289 a l c,aC (abN 303).row l]∧(l.map (fun r=>(r.nm,r.xs))=oD)):=by
 refine cL Tryz.func203 (h:=fun H0=>ae 7 (h:=ck (k:=ae 0 (h:=ck (k:=ae 0 (h:=ck (k:=ae 0 (h:=da H0 (k:=fun w1 H1=>ae 0 (h:=da H1 (k:=fun w2 H2=>ae 0 (h:=da H2 (k:=fun w3 H3=>aU 0 (h:=bC H3 0 (k:=fun w4 H4=>aU 0 (h:=bC H4 1 (k:=fun w5 H5=>aU 0 (h:=bC H5 2 (k:=fun w6 H6=>ae 4 (h:=b8 (H6.b 2) (k:=ae 0 (h:=b8 (H6.b 0) (k:=ae 0 (h:=b8 (H6.b 1) (k:=ae 0 (h:=db qy ([(⟨48,57⟩:Rn),(⟨65,90⟩:Rn),(⟨97,122⟩:Rn)]:List Rn) H6 (k:=fun w7 H7=>ae 0 (h:=ck (k:=ae 0 (h:=b8 (H7.b 0) (k:=ae 0 (h:=b8 (H7.b 1) (k:=ae 0 (h:=db qy ([(⟨65,90⟩:Rn),(⟨97,122⟩:Rn)]:List Rn) H7 (k:=fun w8 H8=>ae 0 (h:=ck (k:=ae 0 (h:=ck (k:=?_)))))))))))))))))))))))))))))))))))))))
 refine ae 0 (h:=ck (k:=ae 0 (h:=db qy ([(⟨9,9⟩:Rn),(⟨32,32⟩:Rn)]:List Rn) H8 (k:=fun w9 H9=>ae 0 (h:=ck (k:=ae 0 (h:=ck (k:=ae 0 (h:=ck (k:=ae 0 (h:=db qy ([(⟨0,31⟩:Rn),(⟨127,127⟩:Rn)]:List Rn) H9 (k:=fun gK bO=>ae 0 (h:=ck (k:=ae 0 (h:=b8 (bO.b 2) (k:=ae 0 (h:=db qy ([(⟨48,57⟩:Rn)]:List Rn) bO (k:=fun iu bR=>ae 0 (h:=ck (k:=ae 0 (h:=ck (k:=ae 0 (h:=db qy ([(⟨33,126⟩:Rn)]:List Rn) bR (k:=fun iW cm=>ae 0 (h:=ck (k:=ae 0 (h:=b8 (cm.b 1) (k:=ae 0 (h:=db qy ([(⟨97,122⟩:Rn)]:List Rn) cm (k:=fun iV cW=>ae 0 (h:=ck (k:=ae 0 (h:=ck (k:=ae 0 (h:=db qy ([(⟨32,126⟩:Rn)]:List Rn) cW (k:=fun lT cH=>ae 0 (h:=ck (k:=ae 0 (h:=ck (k:=?_))))))))))))))))))))))))))))))))))))))))
 refine ae 0 (h:=ck (k:=ae 0 (h:=ck (k:=ae 0 (h:=ck (k:=ae 0 (h:=db qy ([(⟨33,47⟩:Rn),(⟨58,64⟩:Rn),(⟨91,96⟩:Rn),(⟨123,126⟩:Rn)]:List Rn) cH (k:=fun qx cI=>ae 0 (h:=ck (k:=ae 0 (h:=ck (k:=ae 0 (h:=ck (k:=ae 0 (h:=db qy ([(⟨9,13⟩:Rn),(⟨32,32⟩:Rn)]:List Rn) cI (k:=fun qw cT=>ae 0 (h:=ck (k:=ae 0 (h:=b8 (cT.b 0) (k:=ae 0 (h:=db qy ([(⟨65,90⟩:Rn)]:List Rn) cT (k:=fun uW dj=>ae 0 (h:=ck (k:=ae 0 (h:=b8 (dj.b 2) (k:=ae 0 (h:=ck (k:=ae 0 (h:=ck (k:=ae 0 (h:=db qy ([(⟨48,57⟩:Rn),(⟨65,70⟩:Rn),(⟨97,102⟩:Rn)]:List Rn) dj (k:=fun zI dY=>ae 0 (h:=ck (k:=?_))))))))))))))))))))))))))))))))))
 refine ae 0 (h:=db WW ([(⟨⟨#[97,108,110,117,109]⟩,(some ⟨w6.heap.size,0,none⟩),([(⟨48,57⟩:Rn),(⟨65,90⟩:Rn),(⟨97,122⟩:Rn)]:List Rn).length,([(⟨48,57⟩:Rn),(⟨65,90⟩:Rn),(⟨97,122⟩:Rn)]:List Rn).length,([(⟨48,57⟩:Rn),(⟨65,90⟩:Rn),(⟨97,122⟩:Rn)]:List Rn)⟩:NR),(⟨⟨#[97,108,112,104,97]⟩,(some ⟨w7.heap.size,0,none⟩),([(⟨65,90⟩:Rn),(⟨97,122⟩:Rn)]:List Rn).length,([(⟨65,90⟩:Rn),(⟨97,122⟩:Rn)]:List Rn).length,([(⟨65,90⟩:Rn),(⟨97,122⟩:Rn)]:List Rn)⟩:NR),(⟨⟨#[98,108,97,110,107]⟩,(some ⟨w8.heap.size,0,none⟩),([(⟨9,9⟩:Rn),(⟨32,32⟩:Rn)]:List Rn).length,([(⟨9,9⟩:Rn),(⟨32,32⟩:Rn)]:List Rn).length,([(⟨9,9⟩:Rn),(⟨32,32⟩:Rn)]:List Rn)⟩:NR),(⟨⟨#[99,110,116,114,108]⟩,(some ⟨w9.heap.size,0,none⟩),([(⟨0,31⟩:Rn),(⟨127,127⟩:Rn)]:List Rn).length,([(⟨0,31⟩:Rn),(⟨127,127⟩:Rn)]:List Rn).length,([(⟨0,31⟩:Rn),(⟨127,127⟩:Rn)]:List Rn)⟩:NR),(⟨⟨#[100,105,103,105,116]⟩,(some ⟨gK.heap.size,0,none⟩),([(⟨48,57⟩:Rn)]:List Rn).length,([(⟨48,57⟩:Rn)]:List Rn).length,([(⟨48,57⟩:Rn)]:List Rn)⟩:NR),(⟨⟨#[103,114,97,112,104]⟩,(some ⟨iu.heap.size,0,none⟩),([(⟨33,126⟩:Rn)]:List Rn).length,([(⟨33,126⟩:Rn)]:List Rn).length,([(⟨33,126⟩:Rn)]:List Rn)⟩:NR),(⟨⟨#[108,111,119,101,114]⟩,(some ⟨iW.heap.size,0,none⟩),([(⟨97,122⟩:Rn)]:List Rn).length,([(⟨97,122⟩:Rn)]:List Rn).length,([(⟨97,122⟩:Rn)]:List Rn)⟩:NR),(⟨⟨#[112,114,105,110,116]⟩,(some ⟨iV.heap.size,0,none⟩),([(⟨32,126⟩:Rn)]:List Rn).length,([(⟨32,126⟩:Rn)]:List Rn).length,([(⟨32,126⟩:Rn)]:List Rn)⟩:NR),(⟨⟨#[112,117,110,99,116]⟩,(some ⟨lT.heap.size,0,none⟩),([(⟨33,47⟩:Rn),(⟨58,64⟩:Rn),(⟨91,96⟩:Rn),(⟨123,126⟩:Rn)]:List Rn).length,([(⟨33,47⟩:Rn),(⟨58,64⟩:Rn),(⟨91,96⟩:Rn),(⟨123,126⟩:Rn)]:List Rn).length,([(⟨33,47⟩:Rn),(⟨58,64⟩:Rn),(⟨91,96⟩:Rn),(⟨123,126⟩:Rn)]:List Rn)⟩:NR),(⟨⟨#[115,112,97,99,101]⟩,(some ⟨qx.heap.size,0,none⟩),([(⟨9,13⟩:Rn),(⟨32,32⟩:Rn)]:List Rn).length,([(⟨9,13⟩:Rn),(⟨32,32⟩:Rn)]:List Rn).length,([(⟨9,13⟩:Rn),(⟨32,32⟩:Rn)]:List Rn)⟩:NR),(⟨⟨#[117,112,112,101,114]⟩,(some ⟨qw.heap.size,0,none⟩),([(⟨65,90⟩:Rn)]:List Rn).length,([(⟨65,90⟩:Rn)]:List Rn).length,([(⟨65,90⟩:Rn)]:List Rn)⟩:NR),(⟨⟨#[120,100,105,103,105,116]⟩,(some ⟨uW.heap.size,0,none⟩),([(⟨48,57⟩:Rn),(⟨65,70⟩:Rn),(⟨97,102⟩:Rn)]:List Rn).length,([(⟨48,57⟩:Rn),(⟨65,70⟩:Rn),(⟨97,102⟩:Rn)]:List Rn).length,([(⟨48,57⟩:Rn),(⟨65,70⟩:Rn),(⟨97,102⟩:Rn)]:List Rn)⟩:NR)]:List NR) dY (k:=fun zo eJ=>?_))
 refine cG 3 [0] (h:=bE 1 (h:=?_))
 have dB:=eJ.sn
 have gu:aA _ _ _ [[_,_,_,_,_,_,_,_,_,_,_,_],[_]]:=aA.of (aE.j7 dB (l:=[3,4,5,6,7,8,9,10,11,12,13,14,15]) rfl rfl) rfl
 have gQ:Uu2:=gu.VK 0 rfl
 exact ⟨(some ⟨zI.heap.size,0,none⟩),([(⟨⟨#[97,108,110,117,109]⟩,(some ⟨w6.heap.size,0,none⟩),([(⟨48,57⟩:Rn),(⟨65,90⟩:Rn),(⟨97,122⟩:Rn)]:List Rn).length,([(⟨48,57⟩:Rn),(⟨65,90⟩:Rn),(⟨97,122⟩:Rn)]:List Rn).length,([(⟨48,57⟩:Rn),(⟨65,90⟩:Rn),(⟨97,122⟩:Rn)]:List Rn)⟩:NR),(⟨⟨#[97,108,112,104,97]⟩,(some ⟨w7.heap.size,0,none⟩),([(⟨65,90⟩:Rn),(⟨97,122⟩:Rn)]:List Rn).length,([(⟨65,90⟩:Rn),(⟨97,122⟩:Rn)]:List Rn).length,([(⟨65,90⟩:Rn),(⟨97,122⟩:Rn)]:List Rn)⟩:NR),(⟨⟨#[98,108,97,110,107]⟩,(some ⟨w8.heap.size,0,none⟩),([(⟨9,9⟩:Rn),(⟨32,32⟩:Rn)]:List Rn).length,([(⟨9,9⟩:Rn),(⟨32,32⟩:Rn)]:List Rn).length,([(⟨9,9⟩:Rn),(⟨32,32⟩:Rn)]:List Rn)⟩:NR),(⟨⟨#[99,110,116,114,108]⟩,(some ⟨w9.heap.size,0,none⟩),([(⟨0,31⟩:Rn),(⟨127,127⟩:Rn)]:List Rn).length,([(⟨0,31⟩:Rn),(⟨127,127⟩:Rn)]:List Rn).length,([(⟨0,31⟩:Rn),(⟨127,127⟩:Rn)]:List Rn)⟩:NR),(⟨⟨#[100,105,103,105,116]⟩,(some ⟨gK.heap.size,0,none⟩),([(⟨48,57⟩:Rn)]:List Rn).length,([(⟨48,57⟩:Rn)]:List Rn).length,([(⟨48,57⟩:Rn)]:List Rn)⟩:NR),(⟨⟨#[103,114,97,112,104]⟩,(some ⟨iu.heap.size,0,none⟩),([(⟨33,126⟩:Rn)]:List Rn).length,([(⟨33,126⟩:Rn)]:List Rn).length,([(⟨33,126⟩:Rn)]:List Rn)⟩:NR),(⟨⟨#[108,111,119,101,114]⟩,(some ⟨iW.heap.size,0,none⟩),([(⟨97,122⟩:Rn)]:List Rn).length,([(⟨97,122⟩:Rn)]:List Rn).length,([(⟨97,122⟩:Rn)]:List Rn)⟩:NR),(⟨⟨#[112,114,105,110,116]⟩,(some ⟨iV.heap.size,0,none⟩),([(⟨32,126⟩:Rn)]:List Rn).length,([(⟨32,126⟩:Rn)]:List Rn).length,([(⟨32,126⟩:Rn)]:List Rn)⟩:NR),(⟨⟨#[112,117,110,99,116]⟩,(some ⟨lT.heap.size,0,none⟩),([(⟨33,47⟩:Rn),(⟨58,64⟩:Rn),(⟨91,96⟩:Rn),(⟨123,126⟩:Rn)]:List Rn).length,([(⟨33,47⟩:Rn),(⟨58,64⟩:Rn),(⟨91,96⟩:Rn),(⟨123,126⟩:Rn)]:List Rn).length,([(⟨33,47⟩:Rn),(⟨58,64⟩:Rn),(⟨91,96⟩:Rn),(⟨123,126⟩:Rn)]:List Rn)⟩:NR),(⟨⟨#[115,112,97,99,101]⟩,(some ⟨qx.heap.size,0,none⟩),([(⟨9,13⟩:Rn),(⟨32,32⟩:Rn)]:List Rn).length,([(⟨9,13⟩:Rn),(⟨32,32⟩:Rn)]:List Rn).length,([(⟨9,13⟩:Rn),(⟨32,32⟩:Rn)]:List Rn)⟩:NR),(⟨⟨#[117,112,112,101,114]⟩,(some ⟨qw.heap.size,0,none⟩),([(⟨65,90⟩:Rn)]:List Rn).length,([(⟨65,90⟩:Rn)]:List Rn).length,([(⟨65,90⟩:Rn)]:List Rn)⟩:NR),(⟨⟨#[120,100,105,103,105,116]⟩,(some ⟨uW.heap.size,0,none⟩),([(⟨48,57⟩:Rn),(⟨65,70⟩:Rn),(⟨97,102⟩:Rn)]:List Rn).length,([(⟨48,57⟩:Rn),(⟨65,70⟩:Rn),(⟨97,102⟩:Rn)]:List Rn).length,([(⟨48,57⟩:Rn),(⟨65,70⟩:Rn),(⟨97,102⟩:Rn)]:List Rn)⟩:NR)]:List NR),([(⟨⟨#[97,108,110,117,109]⟩,(some ⟨w6.heap.size,0,none⟩),([(⟨48,57⟩:Rn),(⟨65,90⟩:Rn),(⟨97,122⟩:Rn)]:List Rn).length,([(⟨48,57⟩:Rn),(⟨65,90⟩:Rn),(⟨97,122⟩:Rn)]:List Rn).length,([(⟨48,57⟩:Rn),(⟨65,90⟩:Rn),(⟨97,122⟩:Rn)]:List Rn)⟩:NR),(⟨⟨#[97,108,112,104,97]⟩,(some ⟨w7.heap.size,0,none⟩),([(⟨65,90⟩:Rn),(⟨97,122⟩:Rn)]:List Rn).length,([(⟨65,90⟩:Rn),(⟨97,122⟩:Rn)]:List Rn).length,([(⟨65,90⟩:Rn),(⟨97,122⟩:Rn)]:List Rn)⟩:NR),(⟨⟨#[98,108,97,110,107]⟩,(some ⟨w8.heap.size,0,none⟩),([(⟨9,9⟩:Rn),(⟨32,32⟩:Rn)]:List Rn).length,([(⟨9,9⟩:Rn),(⟨32,32⟩:Rn)]:List Rn).length,([(⟨9,9⟩:Rn),(⟨32,32⟩:Rn)]:List Rn)⟩:NR),(⟨⟨#[99,110,116,114,108]⟩,(some ⟨w9.heap.size,0,none⟩),([(⟨0,31⟩:Rn),(⟨127,127⟩:Rn)]:List Rn).length,([(⟨0,31⟩:Rn),(⟨127,127⟩:Rn)]:List Rn).length,([(⟨0,31⟩:Rn),(⟨127,127⟩:Rn)]:List Rn)⟩:NR),(⟨⟨#[100,105,103,105,116]⟩,(some ⟨gK.heap.size,0,none⟩),([(⟨48,57⟩:Rn)]:List Rn).length,([(⟨48,57⟩:Rn)]:List Rn).length,([(⟨48,57⟩:Rn)]:List Rn)⟩:NR),(⟨⟨#[103,114,97,112,104]⟩,(some ⟨iu.heap.size,0,none⟩),([(⟨33,126⟩:Rn)]:List Rn).length,([(⟨33,126⟩:Rn)]:List Rn).length,([(⟨33,126⟩:Rn)]:List Rn)⟩:NR),(⟨⟨#[108,111,119,101,114]⟩,(some ⟨iW.heap.size,0,none⟩),([(⟨97,122⟩:Rn)]:List Rn).length,([(⟨97,122⟩:Rn)]:List Rn).length,([(⟨97,122⟩:Rn)]:List Rn)⟩:NR),(⟨⟨#[112,114,105,110,116]⟩,(some ⟨iV.heap.size,0,none⟩),([(⟨32,126⟩:Rn)]:List Rn).length,([(⟨32,126⟩:Rn)]:List Rn).length,([(⟨32,126⟩:Rn)]:List Rn)⟩:NR),(⟨⟨#[112,117,110,99,116]⟩,(some ⟨lT.heap.size,0,none⟩),([(⟨33,47⟩:Rn),(⟨58,64⟩:Rn),(⟨91,96⟩:Rn),(⟨123,126⟩:Rn)]:List Rn).length,([(⟨33,47⟩:Rn),(⟨58,64⟩:Rn),(⟨91,96⟩:Rn),(⟨123,126⟩:Rn)]:List Rn).length,([(⟨33,47⟩:Rn),(⟨58,64⟩:Rn),(⟨91,96⟩:Rn),(⟨123,126⟩:Rn)]:List Rn)⟩:NR),(⟨⟨#[115,112,97,99,101]⟩,(some ⟨qx.heap.size,0,none⟩),([(⟨9,13⟩:Rn),(⟨32,32⟩:Rn)]:List Rn).length,([(⟨9,13⟩:Rn),(⟨32,32⟩:Rn)]:List Rn).length,([(⟨9,13⟩:Rn),(⟨32,32⟩:Rn)]:List Rn)⟩:NR),(⟨⟨#[117,112,112,101,114]⟩,(some ⟨qw.heap.size,0,none⟩),([(⟨65,90⟩:Rn)]:List Rn).length,([(⟨65,90⟩:Rn)]:List Rn).length,([(⟨65,90⟩:Rn)]:List Rn)⟩:NR),(⟨⟨#[120,100,105,103,105,116]⟩,(some ⟨uW.heap.size,0,none⟩),([(⟨48,57⟩:Rn),(⟨65,70⟩:Rn),(⟨97,102⟩:Rn)]:List Rn).length,([(⟨48,57⟩:Rn),(⟨65,70⟩:Rn),(⟨97,102⟩:Rn)]:List Rn).length,([(⟨48,57⟩:Rn),(⟨65,70⟩:Rn),(⟨97,102⟩:Rn)]:List Rn)⟩:NR)]:List NR).length,rfl,(gQ.se [1,0]),rfl⟩
theorem BC (name:ByteArray) (w:World):
 Calls Tryz.prog 194 #[.string name] w (bj fun v w'=>v= .tuple #[.agg #[av (cA name).w0,av (cA name).w1,av (cA name).w2,av (cA name).w3],.bool (fY name)]∧aE w [] w' []):=by
 refine cL Tryz.func194 (h:=fun H0=>ae 2 (h:=da H0 (k:=fun w1 H1=>ae 6 (h:=aM (c:=OY w1) (k:=?_)))))
 rintro _ w2 ⟨a_1,SG,c_1,rfl,u2,CG⟩
 have H2:=H1.ns u2
 refine cY 5 [8,7,6,3,2,0] (fun B R L m e v=>∃k,e=(8,bJ k)::B∧aA w L v (R)∧(k≤SG.length)∧(∀j,j<k→(SG.getD j A9).nm≠name)∧m=SG.length-k) (i:=⟨0,rfl,H2,om,(by intro j hj;omega),rfl⟩) (h:=?_)
 rintro m1 Γ1 w3 ⟨k,rfl,H3,hk,hn,rfl⟩
 have h12:=OX CG
 refine aL 6 (fun tp=>?_) fun tp=>?_
 refine ae 6 (h:=fI k (H3.rt 1) (k:=ae 0 (h:=zt (H3.rt 1) (k:=ae 0 (h:=da H3 (k:=fun w4 H4=>aU 0 (h:=bC H4 3 (k:=fun w5 H5=>ae 5 (h:=aH (H5.b 3) (k:=aL 4 (fun wV=>?_) fun wV=>?_))))))))))
 refine ae 3 (h:=aH (H5.b 3) (k:=ae 0 (h:=aM (c:=LF _ ((SG.getD k A9).xs) _ ((SG.getD k A9).n) w5 (show bH qy w5 (.slice ((SG.getD k A9).a) ((SG.getD k A9).n) ((SG.getD k A9).c)) ((SG.getD k A9).xs) from (ga.own (H5.cB 2 rfl)).get A9 k oz) (Tu CG oz)) (k:=?_))))
 rintro _ w6 ⟨rfl,u5⟩
 have H6:=H5.call u5
 refine aU 0 (h:=bC H6 0 (k:=fun w7 H7=>fx 4 (h1:=cK (H7.b 0)) (h2:=cZ) (h:=?_)))
 obtain ⟨e1,e2⟩:=Nt CG (show k<SG.length by omega) hn wV
 exact ⟨(by rw [e1,e2]),H7.ag⟩
 exact ae 4 (h:=aX (k:=b6 2 (h:=by exact ⟨k+1,rfl,(H5.pm [0,1,2] rfl rfl),om,(by intro j hj;exact (Nat.lt_or_ge j k).elim (hn j) (fun h=>by (obtain rfl:j=k:=by omega);exact wV)),rfl⟩)))
 refine ae 4 (h:=ck (us:=[av Bs.zero.w0,av Bs.zero.w1,av Bs.zero.w2,av Bs.zero.w3]) (k:=aU 0 (h:=bC H3 0 (k:=fun w8 H8=>fx 4 (h1:=cK (H8.b 0)) (h2:=cZ) (h:=?_)))))
 obtain ⟨e1,e2⟩:=Jb CG (fun j hj=>hn j oz)
 exact ⟨(by rw [e1,e2]),H8.ag⟩
theorem nS (name:ByteArray) (w:World):
 Calls Tryz.prog 174 #[.string name] w (bj fun v w'=>v= .agg #[av (cA name).w0,av (cA name).w1,av (cA name).w2,av (cA name).w3]∧aE w [] w' []):=by
 refine cL Tryz.func174 (h:=fun H0=>ae 2 (h:=da H0 (k:=fun w1 H1=>ae 5 (h:=aM (c:=BC _ w1) (k:=?_)))))
 rintro _ w2 ⟨rfl,u2⟩
 have H2:=H1.call u2
 exact ae 3 (h:=da H2 (k:=fun w3 H3=>aU 0 (h:=bC H3 1 (k:=fun w4 H4=>ae 5 (h:=b8 (H4.b 1) (k:=aU 0 (h:=bC H4 0 (k:=fun w5 H5=>nG 3 (h1:=cK (H5.b 0)) (h:=⟨rfl,H5.ag⟩)))))))))
end Go.Proofs.YtpbgmkhmdbchpaaGreatDoor
