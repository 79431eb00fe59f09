/- Trees: how many states are made of one, the tree turned around, its states. Conditions: those of each theorem. -/
import Derived.Test.YtpbgmkhmdbchpaaGreatDoorWProgramCompilesB1
import Derived.Lib.SlicesCompact
import Derived.Lib.IndexMore
set_option linter.unusedVariables false
set_option linter.unusedSimpArgs false
set_option linter.unusedSectionVars false
set_option maxRecDepth 20000
namespace Go.Sx
theorem dF {p:Prop} (h:p:=by decide):p:=h
def tm (n:Int):Int:=min n 1048576
def eB (n:Nd) (x:Int):Int:=if n.hi<0 then 3+(n.lo+1)*x else 2+n.hi*x+n.hi-n.lo
def br:Tr→Int
  | .leaf _=>2
  | .rep n a=>tm (eB n (br a))
  | .bin n a b=>tm (if n.kind=5 then br a+br b else br a+br b+2)
def fo (T:Tr):Prop:=∀n,n∈T.flat→c8 n=true
theorem fo.rep {n:Nd} {a:Tr} (h:fo (.rep n a)):fo a:=fun x hx=>h x (by simp [Tr.flat,hx])
theorem fo.oR {n:Nd} {a b:Tr} (h:fo (.bin n a b)):fo a:=fun x hx=>h x (by simp [Tr.flat,hx])
theorem fo.oQ {n:Nd} {a b:Tr} (h:fo (.bin n a b)):fo b:=fun x hx=>h x (by simp [Tr.flat,hx])
theorem fo.root {T:Tr} (h:fo T):c8 T.root=true:=h _ (by rw [ep];simp)
theorem c8.rep {n:Nd} (h:c8 n=true) (hk:n.kind=7):0≤n.lo∧n.lo≤32∧(n.hi= -1∨n.lo≤n.hi∧n.hi≤32):=by
  unfold c8 at h;rw [decide_eq_true_eq,if_pos hk] at h;exact h.2
theorem c8.set {n:Nd} (h:c8 n=true) (hk:¬n.kind=1):n.set=Bs.zero:=by
  unfold c8 at h;rw [decide_eq_true_eq] at h;exact h.1.resolve_left hk
theorem B3 {n:Nd} {x:Int} (h:0≤n.lo∧n.lo≤32∧(n.hi= -1∨n.lo≤n.hi∧n.hi≤32)) (hx:0≤x∧x≤1048576):2≤eB n x∧eB n x≤40000000∧0≤n.lo*x∧n.lo*x≤33554432∧(0≤n.hi→0≤n.hi*x∧n.hi*x≤33554432∧n.lo*x≤n.hi*x)∧(n.lo+1)*x≤34603008∧0≤(n.lo+1)*x:=by
  obtain ⟨h1,h2,h3⟩:=h
  have a1:0≤n.lo*x:=Int.mul_nonneg h1 hx.1
  have a2:n.lo*x≤32*1048576:=Int.mul_le_mul h2 hx.2 hx.1 dF
  have a3:(n.lo+1)*x=n.lo*x+x:=by rw [Int.add_mul,Int.one_mul]
  unfold eB
  rcases h3 with h3|⟨h3,h4⟩
  · rw [if_pos oz]
    exact ⟨by omega,by omega,a1,by omega,fun h9=>by omega,by omega,by omega⟩
  · have a4:0≤n.hi*x:=Int.mul_nonneg oz hx.1
    have a5:n.hi*x≤32*1048576:=Int.mul_le_mul h4 hx.2 hx.1 dF
    have a6:n.lo*x≤n.hi*x:=Int.mul_le_mul_of_nonneg_right h3 hx.1
    rw [if_neg oz]
    exact ⟨by omega,by omega,a1,by omega,fun _=>⟨a4,by omega,a6⟩,by omega,by omega⟩
theorem dR:∀(T:Tr),T.wk→fo T→2≤br T∧br T≤1048576
  | .leaf n,_,_=>by simp [br]
  | .rep n a,h,ho=>by
    have ih:=dR a h.2 ho.rep
    have hb:=B3 (n:=n) (x:=br a) (c8.rep (n:=n) ho.root h.1) ⟨by omega,ih.2⟩
    have h1:=hb.1
    have h2:=hb.2.1
    simp only [br,tm];omega
  | .bin n a b,h,ho=>by
    have i1:=dR a h.2.1 ho.oR
    have i2:=dR b h.2.2 ho.oQ
    simp only [br,tm];split<;>omega
def jb (n:Nd):Nd:=if n.kind=3 then { n with kind:=4 } else if n.kind=4 then { n with kind:=3 } else n
def bz:Tr→Tr
  | .leaf n=> .leaf (jb n)
  | .rep n a=> .rep n (bz a)
  | .bin n a b=>if n.kind=5 then .bin n (bz b) (bz a) else .bin n (bz a) (bz b)
theorem gY:∀T:Tr,(bz T).flat.length=T.flat.length
  | .leaf n=>rfl
  | .rep n a=>by simp [bz,Tr.flat,gY a]
  | .bin n a b=>by
    have:=gY a;have:=gY b
    simp only [bz];split<;>simp [Tr.flat]<;>omega
structure ay where
  kind:Int
  a:Int
  b:Int
  set:Bs
deriving DecidableEq
def aq:ay:=⟨0,0,0,Bs.zero⟩
structure Pt where
  s:List ay
  first:Nat
  last:Nat
def dv (s:List ay) (i:Nat) (v:Int):List ay:=s.set i { s.getD i aq with a:=v }
def sj (s:List ay) (i:Nat) (v:Int):List ay:=s.set i { s.getD i aq with b:=v }
def emp:ay:=⟨2,0,0,Bs.zero⟩
def iC (n:Nd) (to:Int):ay:=⟨if n.kind=3 then 4 else if n.kind=4 then 5 else n.kind,to,0,n.set⟩
def fe (f:List ay→Pt):Nat→List ay×Nat→List ay×Nat
  | 0,x=>x
  | k+1,x=>let r:=fe f k x;let y:=f r.1;(dv y.s r.2 y.first,y.last)
def dr (f:List ay→Pt):Nat→List ay×Nat→List ay×Nat×List Nat
  | 0,x=>(x.1,x.2,[])
  | k+1,x=>let r:=dr f k x;let y:=f r.1;(dv (y.s++[⟨3,y.first,0,Bs.zero⟩]) r.2.1 y.s.length,y.last,r.2.2++[y.s.length])
def fq (s:List ay) (l:List Nat) (v:Int):List ay:=l.foldl (fun s i=>sj s i v) s
def fO (f:List ay→Pt) (n:Nd) (s:List ay):Pt:=
  let x:=fe f n.lo.toNat (s++[emp],s.length)
  if n.hi<0 then
    let r:=dr f 1 x
    let u:=r.1++[emp]
    ⟨fq (dv u r.2.1 (r.2.2.getD 0 0:Nat)) r.2.2 r.1.length,s.length,r.1.length⟩
  else
    let r:=dr f (n.hi-n.lo).toNat x
    let u:=r.1++[emp]
    ⟨fq (dv u r.2.1 r.1.length) r.2.2 r.1.length,s.length,r.1.length⟩
def ao:Tr→List ay→Pt
  | .leaf n,s=>⟨s++[iC n (s.length+1),emp],s.length,s.length+1⟩
  | .rep n a,s=>fO (ao a) n s
  | .bin n a b,s=>
    let x:=ao a s
    let y:=ao b x.s
    if n.kind=5 then ⟨dv y.s x.last y.first,x.first,y.last⟩
    else ⟨dv (dv (y.s++[⟨3,x.first,y.first,Bs.zero⟩,emp]) x.last (y.s.length+1)) y.last (y.s.length+1),y.s.length,y.s.length+1⟩
theorem cC (s:List ay) (i:Nat) (v:Int):(dv s i v).length=s.length:=by simp [dv]
theorem Ej (s:List ay) (i:Nat) (v:Int):(sj s i v).length=s.length:=by simp [sj]
theorem mQ:∀(l:List Nat) (s:List ay) (v:Int),(fq s l v).length=s.length
  | [],s,v=>rfl
  | i::l,s,v=>by simp only [fq,List.foldl_cons];exact (mQ l _ v).trans (Ej s i v)
theorem bL (s:List ay) (i:Nat) (v:Int) (j:Nat):(dv s i v).getD j aq=if j=i∧i<s.length then { s.getD i aq with a:=v } else s.getD j aq:=by
  unfold dv
  simp only [List.getD_eq_getElem?_getD,List.getElem?_set]
  by_cases h:i=j
  · subst h
    by_cases h2:i<s.length
    · simp [h2]
    · simp [h2]
  · rw [if_neg h,if_neg (fun h9=>h h9.1.symm)]
theorem si (s:List ay) (i:Nat) (v:Int) (j:Nat):(sj s i v).getD j aq=if j=i∧i<s.length then { s.getD i aq with b:=v } else s.getD j aq:=by
  unfold sj
  simp only [List.getD_eq_getElem?_getD,List.getElem?_set]
  by_cases h:i=j
  · subst h
    by_cases h2:i<s.length
    · simp [h2]
    · simp [h2]
  · rw [if_neg h,if_neg (fun h9=>h h9.1.symm)]
def aQ:Tr→Nat
  | .leaf _=>2
  | .rep n a=>2+n.lo.toNat*aQ a+(if n.hi<0 then aQ a+1 else (n.hi-n.lo).toNat*(aQ a+1))
  | .bin n a b=>if n.kind=5 then aQ a+aQ b else aQ a+aQ b+2
def Mk (f:List ay→Pt) (z:Nat):Prop:=∀s,(f s).s.length=s.length+z∧s.length≤(f s).first∧(f s).first<s.length+z∧s.length≤(f s).last∧(f s).last<s.length+z∧∀j,j<s.length→(f s).s.getD j aq=s.getD j aq
theorem qf {f:List ay→Pt} {z:Nat} (hf:Mk f z) (x:List ay×Nat):∀k,(fe f k x).1.length=x.1.length+k*z
  | 0=>by simp [fe]
  | k+1=>by simp only [fe];rw [cC,(hf _).1,qf hf x k,Nat.succ_mul];omega
theorem l8 {f:List ay→Pt} {z:Nat} (hf:Mk f z) (x:List ay×Nat):∀k,(dr f k x).1.length=x.1.length+k*(z+1)
  | 0=>by simp [dr]
  | k+1=>by simp only [dr];rw [cC,List.length_append,(hf _).1,l8 hf x k,Nat.succ_mul];simp;omega
theorem b7 {α:Type} {d:α} {a b:List α} {j:Nat} (h:j<a.length):(a++b).getD j d=a.getD j d:=by
  rw [List.getD_eq_getElem?_getD,List.getElem?_append_left h,←List.getD_eq_getElem?_getD]
theorem nT {f:List ay→Pt} {z:Nat} (hf:Mk f z) {x:List ay×Nat} {n:Nat} (hn:n≤x.2) (hx:x.2<x.1.length):∀k,n≤(fe f k x).2∧(fe f k x).2<(fe f k x).1.length∧∀j,j<n→(fe f k x).1.getD j aq=x.1.getD j aq
  | 0=>⟨hn,hx,fun _ _=>rfl⟩
  | k+1=>by
    obtain ⟨h1,h2,h3⟩:=nT hf hn hx k
    have:=hf (fe f k x).1
    simp only [fe,cC]
    refine ⟨by omega,by omega,fun j hj=>?_⟩
    rw [bL,if_neg oz,this.2.2.2.2.2 j oz];exact h3 j hj
theorem nX {f:List ay→Pt} {z:Nat} (hf:Mk f z) {x:List ay×Nat} {n:Nat} (hn:n≤x.2) (hx:x.2<x.1.length):∀k,n≤(dr f k x).2.1∧(dr f k x).2.1<(dr f k x).1.length∧(∀i,i∈(dr f k x).2.2→n≤i∧i<(dr f k x).1.length)∧(dr f k x).2.2.length=k∧∀j,j<n→(dr f k x).1.getD j aq=x.1.getD j aq
  | 0=>⟨hn,hx,by simp [dr],rfl,fun _ _=>rfl⟩
  | k+1=>by
    obtain ⟨h1,h2,h4,h5,h3⟩:=nX hf hn hx k
    have:=hf (dr f k x).1
    simp only [dr,cC,List.length_append,List.length_singleton]
    refine ⟨by omega,by omega,fun i hi=>?_,by rw [h5],fun j hj=>?_⟩
    · simp only [List.mem_append,List.mem_singleton] at hi
      rcases hi with hi|rfl
      · have:=h4 i hi;omega
      · omega
    · rw [bL,if_neg oz,b7 oz,this.2.2.2.2.2 j oz];exact h3 j hj
theorem fG:∀(l:List Nat) (s:List ay) (v:Int) (j:Nat),j∉l→(fq s l v).getD j aq=s.getD j aq
  | [],s,v,j,_=>rfl
  | i::l,s,v,j,h=>by
    simp only [fq,List.foldl_cons]
    refine (fG l _ v j (fun h9=>h (List.mem_cons_of_mem _ h9))).trans ?_
    rw [si,if_neg (fun h9=>h (by rw [h9.1];exact List.mem_cons_self))]
theorem Kb {f:List ay→Pt} {z:Nat} (hf:Mk f z) (n:Nd):Mk (fO f n) (2+n.lo.toNat*z+(if n.hi<0 then z+1 else (n.hi-n.lo).toNat*(z+1))):=by
  intro s
  have a1:=qf hf (s++[emp],s.length) n.lo.toNat
  have a2:=nT hf (x:=(s++[emp],s.length)) (n:=s.length) (Nat.le_refl _) (by simp) n.lo.toNat
  unfold fO
  simp only [List.length_append,List.length_singleton] at a1
  by_cases hh:n.hi<0
  · rw [if_pos hh,if_pos hh]
    have b1:=l8 hf (fe f n.lo.toNat (s++[emp],s.length)) 1
    have b2:=nX hf (x:=fe f n.lo.toNat (s++[emp],s.length)) (n:=s.length) a2.1 a2.2.1 1
    simp only [mQ,cC,List.length_append,List.length_singleton]
    refine ⟨by omega,by omega,by omega,by omega,by omega,fun j hj=>?_⟩
    rw [fG _ _ _ _ (fun h9=>by have:=b2.2.2.1 j h9;omega),bL,if_neg oz,b7 oz,b2.2.2.2.2 j hj,a2.2.2 j hj,b7 hj]
  · rw [if_neg hh,if_neg hh]
    have b1:=l8 hf (fe f n.lo.toNat (s++[emp],s.length)) (n.hi-n.lo).toNat
    have b2:=nX hf (x:=fe f n.lo.toNat (s++[emp],s.length)) (n:=s.length) a2.1 a2.2.1 (n.hi-n.lo).toNat
    simp only [mQ,cC,List.length_append,List.length_singleton]
    refine ⟨by omega,by omega,by omega,by omega,by omega,fun j hj=>?_⟩
    rw [fG _ _ _ _ (fun h9=>by have:=b2.2.2.1 j h9;omega),bL,if_neg oz,b7 oz,b2.2.2.2.2 j hj,a2.2.2 j hj,b7 hj]
theorem eX:∀T:Tr,Mk (ao T) (aQ T)
  | .leaf n=>fun s=>by
    simp only [ao,aQ,List.length_append,List.length_cons,List.length_nil]
    exact ⟨trivial,by omega,by omega,by omega,by omega,fun j hj=>b7 hj⟩
  | .rep n a=>Kb (eX a) n
  | .bin n a b=>fun s=>by
    have h1:=eX a s
    have h2:=eX b (ao a s).s
    simp only [ao,aQ]
    by_cases hk:n.kind=5
    · rw [if_pos hk,if_pos hk]
      simp only [cC]
      refine ⟨by omega,by omega,by omega,by omega,by omega,fun j hj=>?_⟩
      rw [bL,if_neg oz,h2.2.2.2.2.2 j oz,h1.2.2.2.2.2 j hj]
    · rw [if_neg hk,if_neg hk]
      simp only [cC,List.length_append,List.length_cons,List.length_nil]
      refine ⟨by omega,by omega,by omega,by omega,by omega,fun j hj=>?_⟩
      rw [bL,if_neg oz,bL,if_neg oz,b7 oz,h2.2.2.2.2.2 j oz,h1.2.2.2.2.2 j hj]
theorem size_eq:∀T:Tr,T.wk→fo T→br T<1048576→(aQ T:Int)=br T
  | .leaf n,_,_,_=>rfl
  | .rep n a,h,ho,hs=>by
    have hr:=c8.rep (n:=n) ho.root h.1
    have ia:=dR a h.2 ho.rep
    obtain ⟨KW,zB,Uo,hb4,hb5,hb6,hb7⟩:=B3 (x:=br a) hr ⟨by omega,ia.2⟩
    simp only [br,tm] at hs ⊢
    have hs2:eB n (br a)<1048576:=by omega
    rw [Int.min_eq_left oz]
    have MR:eB n (br a)=if n.hi<0 then 3+(n.lo+1)*br a else 2+n.hi*br a+n.hi-n.lo:=rfl
    by_cases hz:br a<1048576
    · have ih:=size_eq a h.2 ho.rep hz
      simp only [aQ]
      have e1:((n.lo.toNat*aQ a:Nat):Int)=n.lo*br a:=by rw [Int.natCast_mul,ih];congr 1;omega
      have e3:(n.lo+1)*br a=n.lo*br a+br a:=by rw [Int.add_mul,Int.one_mul]
      by_cases hh:n.hi<0
      · rw [MR,if_pos hh,if_pos hh];omega
      · rw [MR,if_neg hh,if_neg hh]
        have e2:(((n.hi-n.lo).toNat*(aQ a+1):Nat):Int)=n.hi*br a-n.lo*br a+(n.hi-n.lo):=by
          rw [Int.natCast_mul,Int.natCast_add,ih,show (((n.hi-n.lo).toNat:Nat):Int)=n.hi-n.lo by omega,Int.mul_add,Int.sub_mul];simp
        omega
    · have e:br a=1048576:=by omega
      rw [MR,e] at hs2
      rw [MR,e]
      simp only [aQ]
      by_cases hh:n.hi<0
      · rw [if_pos hh] at hs2;omega
      · rw [if_neg hh] at hs2
        have h0:n.hi=0:=by omega
        have h1:n.lo=0:=by omega
        rw [if_neg hh,if_neg hh,h0,h1];simp
  | .bin n a b,h,ho,hs=>by
    have ia:=dR a h.2.1 ho.oR
    have ib:=dR b h.2.2 ho.oQ
    simp only [br,tm] at hs ⊢
    simp only [aQ]
    by_cases hk:n.kind=5
    · rw [if_pos hk] at hs ⊢;rw [if_pos hk,Int.min_eq_left oz]
      have:=size_eq a h.2.1 ho.oR oz;have:=size_eq b h.2.2 ho.oQ oz
      omega
    · rw [if_neg hk] at hs ⊢;rw [if_neg hk,Int.min_eq_left oz]
      have:=size_eq a h.2.1 ho.oR oz;have:=size_eq b h.2.2 ho.oQ oz
      omega
section
variable {P:Program} {Γ:Env} {w:World} {ty:TypeId} {K:Value→World→Prop} {α:Type} {T:Ty α}
theorem OC {t e:TypeId} {x y:Operand} {v:Value} {b s off:Nat} {z:Option Value} {xs:List α} {u:Value} (j:Nat) (d x':α) (hT:T.sz=s) (cX:Nat.blt off s=true) (hs:cp P t=some (1,b,z)) (hx:ev Γ x=some (bP v (j*s+off))) (hy:ev Γ y=some u) (h1:u.oneCell'=true) (he:T.enc x'=(T.enc (xs.getD j d)).set off u)
    (ho:w.ownsRow 0 e T.sz v xs.length (T.all xs)) (hj:j<xs.length) (k:∀w',aE w [aj T v e xs] w' [aj T v e (xs.set j x')]→K undef w'):az P Γ w (.store t x y) ty K:=by
  subst hT
  have ho':off<T.sz:=of_eq_true (Eq.trans Nat.blt_eq.symm (eq_true cX))
  have oP:=T.wZ d xs j off x' u hj ho' he
  refine F9 hs hx hy h1 ho (by rw [T.cR];have:=Nat.mul_le_mul_right T.sz (Nat.succ_le_of_lt hj);rw [Nat.succ_mul] at this;omega) fun w' h=>k w' ?_
  unfold aj
  rw [List.length_set,←oP]
  exact h
theorem W1 {x:Operand} {v:Value} {s:Nat} {xs:List α} (j:Nat) (d:α) (hT:T.sz=s) (hx:ev Γ x=some (bP v (j*s))) (hr:bH T w v xs) (hj:j<xs.length) (k:K (bP v (j*s)) w):az P Γ w (.nilCheck x) ty K:=by
  subst hT
  have h1:=T.pL d xs j 0 hj T.pos
  rw [Nat.add_zero,List.getElem?_eq_getElem (l:=T.enc (xs.getD j d)) (by rw [T.len];exact T.pos)] at h1
  obtain ⟨ad,he,_,c,rfl⟩:=hr.ptr h1
  exact yS (he▸hx) (he▸k)
end
theorem W0 {P:Program} {Γ:Env} {w:World} {ty:TypeId} {K:Value→World→Prop} {α:Type} {T:Ty α} {t e:TypeId} {x lo:Operand} {kd:IntKind} {a:aO} {n c sz b:Nat} {z:Option Value} {l:Int} {xs:List α} (i:Nat) (hT:T.sz=sz) (ht:P.underlying t=some (.slice e)) (hs:cp P e=some (sz,b,z)) (hx:ev Γ x=some (.slice a n c)) (hl:ev Γ lo=some (.int kd l))
    (hn:n=xs.length) (cN:l=((i:Nat):Int)) (DH:i≤n) (acM:n≤c) (k:∀sa sc,(∀w0,bH T w0 (.slice a n c) xs→bH T w0 (.slice sa (xs.drop i).length sc) (xs.drop i))→K (.slice sa (xs.drop i).length sc) w):az P Γ w (.slice t x (some lo) none none) ty K:=by
  subst cN hT hn
  refine CU (i:Int) (xs.length:Int) ht hs hx (by simp [FY,hl]) rfl (.inr ⟨kd,rfl⟩) (.inl ⟨rfl,rfl⟩) ⟨by omega,by omega,by omega⟩ ?_
  have hlen:(xs.drop i).length=xs.length-i:=by simp
  have key:∀sa,(xs.length-i=0∨sa=a.map (·.add (i*T.sz)))→∀w0,bH T w0 (.slice a xs.length c) xs→bH T w0 (.slice sa (xs.drop i).length (c-i)) (xs.drop i):=by
    rintro sa (h0|rfl) w0 hr
    · have h3:xs.drop i=[]:=List.length_eq_zero_iff.1 oz
      rw [h3];exact bH.nil _ _ _
    · have hle:=hr.le
      obtain ⟨A',adR,ev',vu,KP,qV⟩:=hr
      injection ev' with q1 q2 q3
      subst q1 q3
      refine ⟨_,_,rfl,T.cR _,by omega,fun j u hj=>?_⟩
      rw [Gy,List.getElem?_drop] at hj
      obtain ⟨ad,rfl,hc9⟩:=qV _ u hj
      exact ⟨_,rfl,by rw [add_add];exact hc9⟩
  obtain ⟨sa,hsa,Iz⟩:∃sa,(xs.length-i=0∨sa=a.map (·.add (i*T.sz)))∧ez (.slice a xs.length c) T.sz ((i:Nat):Int).toNat ((xs.length:Nat):Int).toNat= .slice sa (xs.drop i).length (c-i):=by
    by_cases hci:c=i
    · exact ⟨a,.inl oz,by simp [ez,hci]⟩
    · exact ⟨_,.inr rfl,by simp [ez,hci]⟩
  rw [Iz]
  exact k sa (c-i) (key sa hsa)
def abN (e:TypeId):ga NR Rn:=⟨qy,e,NR.a,NR.c,NR.xs,NR.n⟩
def fb (v:Value) (L:List Chunk):Prop:=∀g,Value.Jq v=some g→g∉dI L
theorem fb.nil (v:Value):fb v []:=fun _ _=>by simp [dI]
theorem aa9 {α:Type} {T:Ty α} {w:World} {v:Value} {xs:List α} (h:bH T w v xs) (c0:0<xs.length):∀g,Value.Jq v=some g→g<w.heap.size:=by
  obtain ⟨A,cap,rfl,h1,h2,h3⟩:=h
  intro g hg
  have hl:0<(T.all xs).length:=by rw [h1];exact Nat.mul_pos c0 T.pos
  obtain ⟨ad,e,hc⟩:=h3 0 _ (List.getElem?_eq_getElem hl)
  cases e
  have e2:ad.block=g:=by simpa [Value.Jq] using hg
  rw [←e2]
  refine Classical.byContradiction fun h9=>?_
  have hn:w.heap[ad.block]?=none:=Array.getElem?_eq_none oz
  simp [World.cell?,Addr.add,hn] at hc
theorem fb.of {α:Type} {T:Ty α} {w w':World} {v:Value} {xs:List α} {L B:List Chunk} {G:List (List Chunk)} (hs:fb v L) (h:bH T w v xs) (c0:0<xs.length) (H:aA w L w' G) (i:Nat) (hi:G[i]?=some B):fb v B:=by
  intro g hg hm
  have cX:=aa9 h c0 g hg
  have h2:g∈dI G.flatten:=by
    obtain ⟨c,hc,QI⟩:=iA.1 hm
    exact iA.2 ⟨c,List.mem_flatten.2 ⟨B,List.mem_of_getElem? hi,hc⟩,QI⟩
  rcases aE.fresh H g h2 with h1|h1
  · exact hs g hg h1
  · omega
def dT:Ty Tk:=⟨8,fun t=>[.int .i64 t.kind,.int .i64 t.pos,.int .u64 ((t.set.w0.toNat:Nat):Int),.int .u64 ((t.set.w1.toNat:Nat):Int),.int .u64 ((t.set.w2.toNat:Nat):Int),.int .u64 ((t.set.w3.toNat:Nat):Int),.int .i64 t.lo,.int .i64 t.hi],fun _=>rfl,fun t u hu=>by simp at hu;rcases hu with rfl|rfl|rfl|rfl|rfl|rfl|rfl|rfl<;>rfl,by omega⟩
def aJ:Ty Nd:=⟨7,fun t=>[.int .i64 t.kind,.int .u64 ((t.set.w0.toNat:Nat):Int),.int .u64 ((t.set.w1.toNat:Nat):Int),.int .u64 ((t.set.w2.toNat:Nat):Int),.int .u64 ((t.set.w3.toNat:Nat):Int),.int .i64 t.lo,.int .i64 t.hi],fun _=>rfl,fun t u hu=>by simp at hu;rcases hu with rfl|rfl|rfl|rfl|rfl|rfl|rfl<;>rfl,by omega⟩
def aP:Ty ay:=⟨7,fun t=>[.int .i64 t.kind,.int .i64 t.a,.int .i64 t.b,.int .u64 ((t.set.w0.toNat:Nat):Int),.int .u64 ((t.set.w1.toNat:Nat):Int),.int .u64 ((t.set.w2.toNat:Nat):Int),.int .u64 ((t.set.w3.toNat:Nat):Int)],fun _=>rfl,fun t u hu=>by simp at hu;rcases hu with rfl|rfl|rfl|rfl|rfl|rfl|rfl<;>rfl,by omega⟩
def gR:Ty Lv:=⟨2,fun t=>[.int .i64 t.parts,.int .i64 t.aV],fun _=>rfl,fun t u hu=>by simp at hu;rcases hu with rfl|rfl<;>rfl,by omega⟩
section
variable {P:Program} {n:Nat} {Q:Exit→Act→World→Prop} {Γ:Env} {w:World}
def vO (P:Program) (c:Code) (Q:Exit→Act→World→Prop):Nat→Act→World→Prop
  | 0,_,_=>False
  | k+1,a,w=>c.wp P (Exit.then (vO P c Q k) Q) a w
theorem W.roll {c:Code} (k:Nat) (h:W P n c (Exit.then (vO P c Q k) Q) Γ w):W P n (.loop c) Q Γ w:=by
  intro a ha
  refine wp_loop_ghost (fun m a w=>vO P c Q m a w) (k+1) (h a ha) ?_
  intro m a w hm
  cases m with
  | zero=>exact hm.elim
  | succ m=>
    refine wp_mono hm fun e a' w' hq=>?_
    cases e with
    | normal=>exact ⟨m,Nat.lt_succ_self m,hq⟩
    | exit id=>exact hq
    | goto l=>exact hq
    | ret=>exact hq
    | panic ch=>exact hq
    | outgrown=>exact hq
theorem X.roll {c:Code} {k:Nat} (ks:List Nat) {Γ':Env} (he:Sx.pick Γ ks=Γ') (h:W P n c (Exit.then (vO P c Q k) Q) Γ' w):X n (Exit.then (vO P c Q (k+1)) Q) .normal Γ w:=fun a ha=>h a (he▸ha.pick ks)
end
structure Tp where
  a:aO
  n:Nat
  c:Nat
  g:Nat
  o:Nat
def tp0:Tp:=⟨none,0,0,0,0⟩
def aaI:Ty Tp:=⟨2,fun t=>[.slice t.a t.n t.c,.pointer (some ⟨t.g,t.o,none⟩)],fun _=>rfl,fun t u hu=>by simp at hu;rcases hu with rfl|rfl<;>rfl,by omega⟩
def lk {α:Type} :List (Nat×α)→Nat→Option α
  | [],_=>none
  | (k,v)::r,t=>match Nat.beq k t with|true=>some v|false=>lk r t
def VR {α:Type} :List (Nat×Nat×α)→Nat→Nat→Option α
  | [],_,_=>none
  | (k,j,v)::r,t,i=>match Nat.beq k t with
    | true=>(match Nat.beq j i with|true=>some v|false=>VR r t i)
    | false=>VR r t i
class Tb (P:Program) where
  u:List (Nat×TypeDesc)
  hu:u.map (fun x=>P.underlying x.1)=u.map fun x=>some x.2
  s:List (Nat×Nat×Nat×Value)
  hs:s.map (fun x=>cp P x.1)=s.map fun x=>some (x.2.1,x.2.2.1,some x.2.2.2)
  f:List (Nat×Nat×Nat×Nat×Bool)
  hf:f.map (fun x=>nz P x.1 x.2.1)=f.map fun x=>some x.2.2
  c:List Nat
  hc:∀f,c.contains f=true→gJ P f
  mx:P.follows .mixedOrders=true
theorem U4 {P:Program} {c:List Nat} (h:(c.all fun f=>match P.funcs[f]? with|some fn=> !(fn.name== "runtime.NumGoroutine")&& !fn.body.isNone|none=>false)=true) (f:Nat) (hf:c.contains f=true):gJ P f:=by
  have:=List.all_eq_true.1 h f (by simpa using hf)
  split at this
  · rename_i fn e
    simp only [Bool.and_eq_true,Bool.not_eq_true'] at this
    exact rK e this.1 this.2
  · cases this
theorem Ip {α β:Type} {F:Nat→Option β} {G:α→Option β} :∀ {l:List (Nat×α)},(l.map fun x=>F x.1)=(l.map fun x=>G x.2)→∀ {t:Nat} {v:α},lk l t=some v→F t=G v
  | [],_,_,_,h=>by cases h
  | (k,u)::r,h,t,v,e=>by
    simp only [List.map_cons,List.cons.injEq] at h
    unfold lk at e
    cases hb:Nat.beq k t with
    | true=>rw [hb] at e;cases e;rw [←Nat.eq_of_beq_eq_true hb];exact h.1
    | false=>rw [hb] at e;exact Ip h.2 e
theorem Cx {α β:Type} {F:Nat→Nat→Option β} {G:α→Option β} :∀ {l:List (Nat×Nat×α)},(l.map fun x=>F x.1 x.2.1)=(l.map fun x=>G x.2.2)→∀ {t i:Nat} {v:α},VR l t i=some v→F t i=G v
  | [],_,_,_,_,h=>by cases h
  | (k,j,u)::r,h,t,i,v,e=>by
    simp only [List.map_cons,List.cons.injEq] at h
    unfold VR at e
    cases hb:Nat.beq k t with
    | true=>
      rw [hb] at e
      cases hc:Nat.beq j i with
      | true=>rw [hc] at e;cases e;rw [←Nat.eq_of_beq_eq_true hb,←Nat.eq_of_beq_eq_true hc];exact h.1
      | false=>rw [hc] at e;exact Cx h.2 e
    | false=>rw [hb] at e;exact Cx h.2 e
section
variable {P:Program} [T:Tb P]
theorem Tb.U {t:TypeId} {d:TypeDesc} (h:lk T.u t=some d):P.underlying t=some d:=Ip (F:=P.underlying) (G:=some) T.hu h
theorem Tb.S {t:TypeId} {s b:Nat} {z:Value} (h:lk T.s t=some (s,b,z)):cp P t=some (s,b,some z):=Ip (F:=cp P) (G:=fun x:Nat×Nat×Value=>some (x.1,x.2.1,some x.2.2)) T.hs h
theorem Tb.C {f:FuncId} (h:T.c.contains f=true):gJ P f:=T.hc f h
theorem Tb.F {t:TypeId} {f:Nat} {x:Nat×Nat×Bool} (h:VR T.f t f=some x):nz P t f=some x:=Cx (F:=nz P) (G:=some) T.hf h
end
inductive Fr where
  | nx (c:Code)
  | bl (id:Nat)
  | iv (K:Act→World→Prop)
def QF (P:Program) (Q:Exit→Act→World→Prop):List Fr→Exit→Act→World→Prop
  | []=>Q
  | .nx c::fs=>Exit.then (c.wp P (QF P Q fs)) (QF P Q fs)
  | .bl id::fs=>Exit.inBlock id (QF P Q fs)
  | .iv K::fs=>Exit.then K (QF P Q fs)
inductive Gl where
  | code (c:Code) (fs:List Fr) (Γ:Env)
  | ops (all:Array Oper) (rest:List Oper) (fs:List Fr) (Γ:Env)
  | draw (all:Array Oper) (T:List Nat) (Pn:List pO) (fs:List Fr) (Γ:Env)
  | norm (fs:List Fr) (Γ:Env)
  | ret (Γ:Env)
  | bad
def Mm (id:Nat):List Fr→Option (List Fr)
  | []=>none
  | .bl i::fs=>(match Nat.beq i id with|true=>some fs|false=>Mm id fs)
  | .nx _::fs=>Mm id fs
  | .iv _::fs=>Mm id fs
def Me (n:Nat) (d:Option Nat) (v:Value) (Γ:Env):Option Env:=
  match d with
  | some d=>(match Nat.blt d n with|true=>some ((d,v)::Γ)|false=>none)
  | none=>some Γ
def N0 (all:Array Oper) (Γ:Env):Option (Nat×Bool)→Option Bool
  | none=>some true
  | some (j,want)=>match (all[j]?).bind (·.dst) with
    | some t=>(match look Γ t with
      | some (.bool b)=>(match b,want with|true,true=>some true|false,false=>some true|true,false=>some false|false,true=>some false)
      | some (.tuple vs)=>(match vs.toList with|[]=>some false|_=>none)
      | _=>none)
    | none=>none
def opA (P:Program) [T:Tb P] (Γ:Env):Op→Option Value
  | .move x=>ev Γ x
  | .assign x=>ev Γ x
  | .extract x i=>(match ev Γ x with|some (.tuple vs)=>vs.toList[i]?|_=>none)
  | .pick c x y=>(match ev Γ c with|some (.bool b)=>(match b with|true=>ev Γ x|false=>ev Γ y)|_=>none)
  | .binOp op _ x y _=>(match ev Γ x,ev Γ y with
    | some (.int k a),some (.int k' b)=>(match decide (k=k') with|true=>(Ld op a b).map .bool|false=>none)
    | some (.string a),some (.string b)=>(match op with| .eql=>some (.bool (decide (a=b)))| .neq=>some (.bool (decide (a≠b)))|_=>none)
    | _,_=>none)
  | .unOp .not _ x=>(match ev Γ x with|some (.bool b)=>some (.bool (!b))|_=>none)
  | .call ⟨.builtin .len,⟨[x]⟩,⟨[t]⟩⟩=>(match ev Γ x,lk T.u t with
    | some (.slice _ n _),some (.slice _)=>some (.int .i64 ((n:Nat):Int))
    | some (.string s),some .string=>some (.int .i64 ((s.size:Nat):Int))
    | _,_=>none)
  | .fieldAddr t x f=>(match ev Γ x,VR T.f t f with
    | some (.pointer (some ⟨g,o,none⟩)),some (off,s,_)=>(match Nat.beq s 0 with|false=>some (.pointer (some ⟨g,o+off,none⟩))|true=>none)
    | _,_=>none)
  | .field t x f=>(match ev Γ x,VR T.f t f with
    | some (.agg cs),some (off,s,a)=>(match a with|true=>some (.agg ((cs.toList.drop off).take s).toArray)|false=>cs.toList[off]?)
    | _,_=>none)
  | .nilCheck x=>(match ev Γ x with
    | some (.pointer (some a))=>some (.pointer (some a))
    | some (.func (.func f) a b)=>some (.func (.func f) a b)
    | _=>none)
  | _=>none
theorem EP {P:Program} [T:Tb P] {w:World} {Γ:Env} {op:Op} {v:Value} {ty:TypeId} {K:Value→World→Prop} (h:opA P Γ op=some v) (k:K v w):az P Γ w op ty K:=by
  unfold opA at h
  split at h
  · exact YZ h k
  · exact Rw h k
  · split at h
    · rename_i hx;exact Nn hx (by simpa using h) k
    · cases h
  · split at h
    · rename_i b hc;exact YV hc (by cases b<;>exact h) k
    · cases h
  · split at h
    · rename_i hx hy
      split at h
      · rename_i hk
        have hk:=of_decide_eq_true hk;subst hk
        cases hc:Ld _ _ _ with
        | none=>rw [hc] at h;cases h
        | some r=>rw [hc] at h;cases h;exact Ru r hx hy hc k
      · cases h
    · rename_i hx hy
      split at h
      · cases h;exact UL hx hy k
      · cases h;exact UK hx hy k
      · cases h
    · cases h
  · split at h
    · rename_i hx;cases h;exact YX hx k
    · cases h
  · split at h
    · rename_i hx ht;cases h;exact Y0 (Tb.U ht) hx k
    · rename_i hx ht;cases h;exact Rl (Tb.U ht) hx k
    · cases h
  · split at h
    · rename_i hx hf
      split at h
      · rename_i hs;cases h;exact CX (Tb.F hf) hs hx k
      · cases h
    · cases h
  · split at h
    · rename_i hx hf
      split at h
      · cases h;exact Rt (Tb.F hf) hx (by apply Array.toList_inj.1;simp [List.drop_take]) k
      · exact UN (Tb.F hf) hx (by simpa using h) k
    · cases h
  · split at h
    · rename_i hx;cases h;exact yS hx k
    · rename_i hx;cases h;exact Gb hx k
    · cases h
  · cases h
def Ae (P:Program) [Tb P] (n:Nat) (all:Array Oper) (T:List Nat) (Γ:Env):List Nat→Option (Nat×Value×Nat)
  | []=>none
  | k::r=>match T.contains k with
    | true=>Ae P n all T Γ r
    | false=>(match (dh all k).all T.contains with
      | false=>Ae P n all T Γ r
      | true=>(match all[k]? with
        | some o=>(match o.dst with
          | some d=>(match Nat.blt d n with
            | true=>(match lY all Γ o with
              | some true=>(match opA P Γ o.op with|some v=>some (k,v,d)|none=>Ae P n all T Γ r)
              | some false=>some (k,undef,d)
              | none=>Ae P n all T Γ r)
            | false=>Ae P n all T Γ r)
          | none=>Ae P n all T Γ r)
        | none=>Ae P n all T Γ r))
def cu (P:Program) [Tb P] (n:Nat):Nat→Gl→Gl
  | 0,g=>g
  | k+1,.code c fs Γ=>(match c with
    | .seq x y=>cu P n k (.code x (.nx y::fs) Γ)
    | .skip=>cu P n k (.norm fs Γ)
    | .block id c=>cu P n k (.code c (.bl id::fs) Γ)
    | .exit id=>(match Mm id fs with|some UC=>cu P n k (.norm UC Γ)|none=> .bad)
    | .ret=>cu P n k (.ret Γ)
    | .region _ ops draw=>(match draw with|false=>cu P n k (.ops ops ops.toList fs Γ)|true=> .bad)
    | .cond c x y=>(match ev Γ c with|some (.bool b)=>(match b with|true=>cu P n k (.code x fs Γ)|false=>cu P n k (.code y fs Γ))|_=> .bad)
    | _=> .bad)
  | k+1,.ops all rest fs Γ=>(match rest with
    | []=>cu P n k (.norm fs Γ)
    | o::r=>(match N0 all Γ o.guard with
      | some true=>(match opA P Γ o.op with|some v=>(match Me n o.dst v Γ with|some Γ'=>cu P n k (.ops all r fs Γ')|none=> .bad)|none=> .bad)
      | some false=>(match Me n o.dst undef Γ with|some Γ'=>cu P n k (.ops all r fs Γ')|none=> .bad)
      | none=> .bad))
  | k+1,.draw all T Pn fs Γ=>(match (List.range all.size).all T.contains with
    | true=>cu P n k (.norm fs Γ)
    | false=>(match Ae P n all T Γ (List.range all.size) with
      | some (j,v,d)=>cu P n k (.draw all (j::T) (⟨j,v,fun _=>True⟩::Pn) fs ((d,v)::Γ))
      | none=> .bad))
  | k+1,.norm fs Γ=>(match fs with
    | .nx c::fs=>cu P n k (.code c fs Γ)
    | .bl _::fs=>cu P n k (.norm fs Γ)
    | _=> .bad)
  | _+1,_=> .bad
section
variable {P:Program} {n:Nat} {Q:Exit→Act→World→Prop} {w:World}
def Gl.is (P:Program) (n:Nat) (Q:Exit→Act→World→Prop) (w:World):Gl→Prop
  | .code c fs Γ=>W P n c (QF P Q fs) Γ w
  | .ops all rest fs Γ=>WL P n all (QF P Q fs) rest Γ w
  | .draw all T Pn fs Γ=>fv all=true→WD P n all (QF P Q fs) T Pn Γ w
  | .norm fs Γ=>X n (QF P Q fs) .normal Γ w
  | .ret Γ=>X n Q .ret Γ w
  | .bad=>False
theorem Dy:∀(fs:List Fr) (a:Act) (w:World),QF P Q fs .ret a w=Q .ret a w
  | [],_,_=>rfl
  | .nx _::fs,a,w=>Dy fs a w
  | .bl _::fs,a,w=>Dy fs a w
  | .iv _::fs,a,w=>Dy fs a w
theorem nQ {id:Nat} :∀(fs:List Fr) {UC:List Fr},Mm id fs=some UC→∀a w,QF P Q UC .normal a w→QF P Q fs (.exit id) a w
  | [],UC,h,a,w,hq=>by cases h
  | .bl i::fs,UC,h,a,w,hq=>by
    unfold Mm at h
    cases hb:Nat.beq i id with
    | true=>
      rw [hb] at h;cases h
      have e:=Nat.eq_of_beq_eq_true hb
      subst e
      simpa [QF,Exit.inBlock] using hq
    | false=>
      rw [hb] at h
      have ne:id≠i:=fun e=>by subst e;simp at hb
      show Exit.inBlock i (QF P Q fs) (.exit id) a w
      simpa [Exit.inBlock,ne] using nQ fs h a w hq
  | .nx c::fs,UC,h,a,w,hq=>nQ fs h a w hq
  | .iv K::fs,UC,h,a,w,hq=>nQ fs h a w hq
theorem QN {all:Array Oper} {Γ:Env} {g:Option (Nat×Bool)} (h:N0 all Γ g=some true):g=none∨∃j want t,g=some (j,want)∧(all[j]?).bind (·.dst)=some t∧look Γ t=some (.bool want):=by
  unfold N0 at h
  split at h
  · exact .inl rfl
  · rename_i j want
    split at h
    · rename_i t ht
      split at h
      · rename_i b hb
        refine .inr ⟨j,want,t,rfl,ht,?_⟩
        split at h<;>first|exact hb|cases h
      · split at h<;>cases h
      · cases h
    · cases h
theorem M7 {all:Array Oper} {Γ:Env} {g:Option (Nat×Bool)} (h:N0 all Γ g=some false):∃j want t,g=some (j,want)∧(all[j]?).bind (·.dst)=some t∧(look Γ t=some (.bool (!want))∨look Γ t=some undef):=by
  unfold N0 at h
  split at h
  · cases h
  · rename_i j want
    split at h
    · rename_i t ht
      refine ⟨j,want,t,rfl,ht,?_⟩
      split at h
      · rename_i b hb
        split at h<;>first|exact .inl hb|cases h
      · rename_i vs hb
        split at h
        · rename_i hv
          right;rw [hb];congr 1;unfold undef;congr 1
          exact Array.toList_inj.1 hv
        · cases h
      · cases h
    · cases h
theorem p5 {m:Nat} {d:Nat} {v:Value} {Γ Γ':Env} (h:Me m (some d) v Γ=some Γ'):Nat.blt d m=true∧Γ'=(d,v)::Γ:=by
  unfold Me at h
  simp only at h
  cases hb:Nat.blt d m with
  | true=>rw [hb] at h;cases h;exact ⟨rfl,rfl⟩
  | false=>rw [hb] at h;cases h
theorem WL.gd {all:Array Oper} {o:Oper} {r:List Oper} {R:Exit→Act→World→Prop} {Γ:Env} (hg:N0 all Γ o.guard=some true) (hd:(match o.dst with|some d=>Nat.blt d n|none=>true)=true) (h:az P Γ w o.op o.type fun v w'=>WL P n all R r (B7 Γ o.dst v) w'):WL P n all R (o::r) Γ w:=by
  obtain ⟨dst,op,ty,pos,after,guard⟩:=o
  simp only at hg hd h
  rcases QN hg with rfl|⟨j,want,t,rfl,hj,hv⟩
  · cases dst with
    | some d=>exact WL.op hd h
    | none=>exact WL.op0 h
  · cases dst with
    | some d=>exact WL.opG hj hv hd h
    | none=>exact WL.af0 hj hv h
theorem Mq [Tb P] {all:Array Oper} {o:Oper} {r:List Oper} {R:Exit→Act→World→Prop} {Γ Γ':Env} {v:Value} (hg:N0 all Γ o.guard=some true) (ho:opA P Γ o.op=some v) (hp:Me n o.dst v Γ=some Γ') (k:WL P n all R r Γ' w):WL P n all R (o::r) Γ w:=by
  refine WL.gd hg ?_ (EP ho ?_)
  · cases hd:o.dst with
    | some d=>rw [hd] at hp;exact (p5 hp).1
    | none=>rfl
  · cases hd:o.dst with
    | some d=>rw [hd] at hp;rw [(p5 hp).2] at k;exact k
    | none=>rw [hd] at hp;cases hp;exact k
theorem Mp {all:Array Oper} {o:Oper} {r:List Oper} {R:Exit→Act→World→Prop} {Γ Γ':Env} (hg:N0 all Γ o.guard=some false) (hp:Me n o.dst undef Γ=some Γ') (k:WL P n all R r Γ' w):WL P n all R (o::r) Γ w:=by
  obtain ⟨dst,op,ty,pos,after,guard⟩:=o
  simp only at hg hp
  obtain ⟨j,want,t,rfl,hj,hv|hv⟩:=M7 hg
  · cases dst with
    | some d=>obtain ⟨hd,rfl⟩:=p5 hp;exact WL.opN hj hv (by cases want<;>rfl) hd k
    | none=>cases hp;exact WL.afZ hj hv (by cases want<;>rfl) k
  · cases dst with
    | some d=>obtain ⟨hd,rfl⟩:=p5 hp;exact WL.opU hj hv hd k
    | none=>cases hp;exact WL.afY hj hv k
theorem gH [Tb P] {all:Array Oper} {R:Exit→Act→World→Prop} {T:List Nat} {Pn:List pO} {Γ:Env} {j d:Nat} {v:Value} (bX:fv all=true):∀(l:List Nat),Ae P n all T Γ l=some (j,v,d)→WD P n all R (j::T) (⟨j,v,fun _=>True⟩::Pn) ((d,v)::Γ) w→WD P n all R T Pn Γ w
  | [],h,_=>by cases h
  | k::r,h,k2=>by
    unfold Ae at h
    split at h
    · exact gH bX r h k2
    · rename_i hT
      split at h
      · exact gH bX r h k2
      · rename_i hp
        split at h
        · rename_i o ho
          split at h
          · rename_i d' hd
            split at h
            · rename_i CK
              split at h
              · rename_i hw
                split at h
                · rename_i v' hv
                  cases h
                  exact WD.take bX _ _ _ ho hd CK hT hp trivial (.inl ⟨hw,fun w' _=>EP hv ⟨rfl,rfl⟩⟩) k2
                · exact gH bX r h k2
              · rename_i hw
                cases h
                exact WD.take bX _ undef _ ho hd CK hT hp trivial (.inr ⟨hw,rfl⟩) k2
              · exact gH bX r h k2
            · exact gH bX r h k2
          · exact gH bX r h k2
        · exact gH bX r h k2
theorem aD [Tb P]:∀(k:Nat) (g:Gl),Gl.is P n Q w (cu P n k g)→Gl.is P n Q w g
  | 0,g,h=>h
  | k+1,.code c fs Γ,h=>by
    unfold cu at h
    cases c with
    | seq x y=>exact W.seq (aD k _ h)
    | skip=>exact W.skip (aD k _ h)
    | block id c=>exact W.block (aD k _ h)
    | exit id=>
      simp only at h
      split at h
      · rename_i UC hp
        have:=aD k _ h
        exact W.exit (fun a ha=>nQ _ hp a w (this a ha))
      · exact h.elim
    | ret=>
      have h2:X n Q .ret Γ w:=aD k _ h
      exact W.ret (fun a ha=>by rw [Dy];exact h2 a ha)
    | region id ops draw=>
      cases draw with
      | false=>
        have h2:WL P n ops (QF P Q fs) ops.toList Γ w:=aD k _ h
        obtain ⟨l⟩:=ops
        exact W.region h2
      | true=>exact h.elim
    | cond c x y=>
      simp only at h
      split at h
      · rename_i b hb
        cases b with
        | true=>exact W.ift hb (aD k _ h)
        | false=>exact W.iff hb (aD k _ h)
      · exact h.elim
    | _=>exact h.elim
  | k+1,.ops all rest fs Γ,h=>by
    unfold cu at h
    cases rest with
    | nil=>exact WL.done (aD k _ h)
    | cons o r=>
      simp only at h
      split at h
      · rename_i hg
        split at h
        · rename_i v ho
          split at h
          · rename_i Γ' hp;exact Mq hg ho hp (aD k _ h)
          · exact h.elim
        · exact h.elim
      · rename_i hg
        split at h
        · rename_i Γ' hp;exact Mp hg hp (aD k _ h)
        · exact h.elim
      · exact h.elim
  | k+1,.draw all T Pn fs Γ,h=>by
    unfold cu at h
    intro bX
    split at h
    · rename_i jS;exact WD.done bX jS (aD k _ h)
    · split at h
      · rename_i j v d hf;exact gH bX _ hf (aD k _ h bX)
      · exact h.elim
  | k+1,.norm fs Γ,h=>by
    unfold cu at h
    cases fs with
    | nil=>exact h.elim
    | cons f fs=>
      cases f with
      | nx c=>exact X.AJ (aD k _ h)
      | bl id=>exact X.Dl (aD k _ h)
      | iv K=>exact h.elim
  | k+1,.ret Γ,h=>by unfold cu at h;exact h.elim
  | k+1,.bad,h=>by unfold cu at h;exact h.elim
end
section
variable {P:Program} {Γ:Env} {w:World} {ty:TypeId} {K:Value→World→Prop}
theorem Hn {t e:TypeId} {b:Nat} {z:Option Value} (d:Nat) (s u:Bs) (ht:P.underlying t=some (.array 4 e)) (he:P.underlying e=some (.int .u64)) (hs:cp P e=some (1,b,z)):
    (Op.equalIn (d+2) t (.agg #[.int .u64 ((s.w0.toNat:Nat):Int),.int .u64 ((s.w1.toNat:Nat):Int),.int .u64 ((s.w2.toNat:Nat):Int),.int .u64 ((s.w3.toNat:Nat):Int)]) (.agg #[.int .u64 ((u.w0.toNat:Nat):Int),.int .u64 ((u.w1.toNat:Nat):Int),.int .u64 ((u.w2.toNat:Nat):Int),.int .u64 ((u.w3.toNat:Nat):Int)])).run P w= .ok (decide (s=u)) w:=by
  obtain ⟨i,hi,h1,_,_⟩:=kZ hs
  rw [run_equalIn_array w (d+1) _ _ ht hi]
  have hc:P.cellsOf e=1:=by simp [Program.cellsOf,hi,h1]
  have hr:List.range 4=[0,1,2,3]:=by decide
  have key:∀(x y:BitVec 64),((((x.toNat:Nat):Int))==(((y.toNat:Nat):Int)))=decide (x=y):=fun x y=>by
    rw [Bool.eq_iff_iff,beq_iff_eq,decide_eq_true_eq]
    exact ⟨fun h=>BitVec.eq_of_toNat_eq oz,fun h=>by rw [h]⟩
  have hd:decide (s=u)=(decide (s.w0=u.w0)&&(decide (s.w1=u.w1)&&(decide (s.w2=u.w2)&&decide (s.w3=u.w3)))):=by
    rw [Bool.eq_iff_iff];simp only [decide_eq_true_eq,Bool.and_eq_true]
    exact ⟨fun h=>by subst h;exact ⟨rfl,rfl,rfl,rfl⟩,fun h=>Bs.F6 h.1 h.2.1 h.2.2.1 h.2.2.2⟩
  rw [hr,hc,hd]
  have pt:∀(X:Array Value) (o:Nat) (v:Value),X[o]?=some v→(part e X o).run P w= .ok v w:=fun X o v h=>by simp [part,isAgg,run_underlying he,h]
  have p0:∀a b c d:Value,(part e #[a,b,c,d] 0).run P w= .ok a w:=fun a b c d=>pt _ 0 _ rfl
  have p1:∀a b c d:Value,(part e #[a,b,c,d] 1).run P w= .ok b w:=fun a b c d=>pt _ 1 _ rfl
  have p2:∀a b c d:Value,(part e #[a,b,c,d] 2).run P w= .ok c w:=fun a b c d=>pt _ 2 _ rfl
  have p3:∀a b c d:Value,(part e #[a,b,c,d] 3).run P w= .ok d w:=fun a b c d=>pt _ 3 _ rfl
  have q:∀(x y:BitVec 64),(Op.equalIn (d+1) e (.int .u64 ((x.toNat:Nat):Int)) (.int .u64 ((y.toNat:Nat):Int))).run P w= .ok (decide (x=y)) w:=fun x y=>by
    rw [run_equalIn_int w d e .u64 .u64 _ _ he,key]
  simp only [Op.eqItems,Sem.run_bind,Nat.mul_one,p0,Result.andThen_ok,q]
  cases decide (s.w0=u.w0)
  · simp
  simp only [Bool.not_true,Bool.false_eq_true,if_false,Sem.run_bind,p1,Result.andThen_ok,q]
  cases decide (s.w1=u.w1)
  · simp
  simp only [Bool.not_true,Bool.false_eq_true,if_false,Sem.run_bind,p2,Result.andThen_ok,q]
  cases decide (s.w2=u.w2)
  · simp
  simp only [Bool.not_true,Bool.false_eq_true,if_false,Sem.run_bind,p3,Result.andThen_ok,q]
  cases decide (s.w3=u.w3)
  · simp
  · simp
def sK (a:Nd):Array Value:= #[.int .i64 a.kind,.int .u64 ((a.set.w0.toNat:Nat):Int),.int .u64 ((a.set.w1.toNat:Nat):Int),.int .u64 ((a.set.w2.toNat:Nat):Int),.int .u64 ((a.set.w3.toNat:Nat):Int),.int .i64 a.lo,.int .i64 a.hi]
theorem OW {t e:TypeId} {b b2:Nat} {z z2:Option Value} {f0 f1 f2 f3:Field} (x y:Nd) (ht:P.underlying t=some (.struct (P.fieldsOf t))) (hf:(P.fieldsOf t).toList=[f0,f1,f2,f3])
    (hn:f0.name≠ "_" ∧f1.name≠ "_" ∧f2.name≠ "_" ∧f3.name≠ "_") (ho:f0.offset=0∧f1.offset=1∧f2.offset=5∧f3.offset=6) (h0:P.underlying f0.type=some (.int .i64)) (h2:P.underlying f2.type=some (.int .i64)) (h3:P.underlying f3.type=some (.int .i64))
    (h1:P.underlying f1.type=some (.array 4 e)) (yw:cp P f1.type=some (4,b2,z2)) (he:P.underlying e=some (.int .u64)) (hs:cp P e=some (1,b,z)) (hp:P.stoodInHeld t=false):
    (Op.equalIn 10000 t (.agg (sK x)) (.agg (sK y))).run P w= .ok (decide (x=y)) w:=by
  rw [run_equalIn_struct w 9999 t _ _ ht hp,hf]
  obtain ⟨n0,n1,n2,n3⟩:=hn
  obtain ⟨o0,o1,o2,o3⟩:=ho
  have hd:decide (x=y)=(decide (x.kind=y.kind)&&(decide (x.set=y.set)&&(decide (x.lo=y.lo)&&decide (x.hi=y.hi)))):=by
    rw [Bool.eq_iff_iff];simp only [decide_eq_true_eq,Bool.and_eq_true]
    refine ⟨fun h=>by subst h;exact ⟨rfl,rfl,rfl,rfl⟩,fun h=>?_⟩
    obtain ⟨k,s,l,i⟩:=x
    obtain ⟨k',s',l',i'⟩:=y
    obtain ⟨a1,a2,a3,a4⟩:=h
    simp only at a1 a2 a3 a4
    subst a1;subst a2;subst a3;subst a4;rfl
  have pt:∀(g:TypeId) (X:Array Value) (o:Nat) (v:Value),P.underlying g=some (.int .i64)→X[o]?=some v→(part g X o).run P w= .ok v w:=fun g X o v hg h=>by simp [part,isAgg,run_underlying hg,h]
  have ps:∀(a:Nd),(part f1.type (sK a) 1).run P w= .ok (.agg #[.int .u64 ((a.set.w0.toNat:Nat):Int),.int .u64 ((a.set.w1.toNat:Nat):Int),.int .u64 ((a.set.w2.toNat:Nat):Int),.int .u64 ((a.set.w3.toNat:Nat):Int)]) w:=fun a=>by
    simp [part,isAgg,run_underlying h1,ko yw,sK]
  have p0:∀a:Nd,(part f0.type (sK a) 0).run P w= .ok (.int .i64 a.kind) w:=fun a=>pt _ _ _ _ h0 rfl
  have p2:∀a:Nd,(part f2.type (sK a) 5).run P w= .ok (.int .i64 a.lo) w:=fun a=>pt _ _ _ _ h2 rfl
  have p3:∀a:Nd,(part f3.type (sK a) 6).run P w= .ok (.int .i64 a.hi) w:=fun a=>pt _ _ _ _ h3 rfl
  have q:∀(g:TypeId) (a c:Int),P.underlying g=some (.int .i64)→(Op.equalIn 9999 g (.int .i64 a) (.int .i64 c)).run P w= .ok (decide (a=c)) w:=fun g a c hg=>by
    rw [run_equalIn_int w 9998 g .i64 .i64 _ _ hg];rfl
  have qs:=Hn (w:=w) 9997 x.set y.set h1 he hs
  simp only [Nat.reduceAdd] at qs
  simp only [Op.eqFields,ne_eq,n0,n1,n2,n3,not_false_eq_true,if_true,Sem.run_bind,o0,o1,o2,o3,p0,q _ _ _ h0,Result.andThen_ok,hd]
  cases decide (x.kind=y.kind)
  · simp
  simp only [Bool.not_true,Bool.false_eq_true,if_false,Sem.run_bind,ps,Result.andThen_ok,qs]
  cases decide (x.set=y.set)
  · simp
  simp only [Bool.not_true,Bool.false_eq_true,if_false,Sem.run_bind,p2,q _ _ _ h2,Result.andThen_ok]
  cases decide (x.lo=y.lo)
  · simp
  simp only [Bool.not_true,Bool.false_eq_true,if_false,Sem.run_bind,p3,q _ _ _ h3,Result.andThen_ok]
  cases decide (x.hi=y.hi)
  · simp
  · simp
theorem YY {xt yt e:TypeId} {b b2:Nat} {z z2:Option Value} {f0 f1 f2 f3:Field} {x y:Operand} (u v:Nd) (hx:ev Γ x=some (.agg (sK u))) (hy:ev Γ y=some (.agg (sK v))) (hu:P.underlying xt=some (.struct #[f0,f1,f2,f3]))
    (hn:f0.name≠ "_" ∧f1.name≠ "_" ∧f2.name≠ "_" ∧f3.name≠ "_") (ho:f0.offset=0∧f1.offset=1∧f2.offset=5∧f3.offset=6) (h0:P.underlying f0.type=some (.int .i64)) (h2:P.underlying f2.type=some (.int .i64)) (h3:P.underlying f3.type=some (.int .i64))
    (h1:P.underlying f1.type=some (.array 4 e)) (yw:cp P f1.type=some (4,b2,z2)) (he:P.underlying e=some (.int .u64)) (hs:cp P e=some (1,b,z)) (hp:P.stoodInHeld xt=false) (hm:P.eqGuardType P.depth xt=false)
    (k:K (.bool (decide (u≠v))) w):az P Γ w (.binOp .neq xt x y yt) ty K:=
  have hF:P.fieldsOf xt= #[f0,f1,f2,f3]:=by simp [Program.fieldsOf,hu]
  az.of_run (fun ρ hρ=>by
    simp only [ex,execOp,hρ x _ hx,hρ y _ hy,Sem.run_bind,run_eqGuard_agg w _ _ _ _ _ _ hm,run_neq_struct,Result.andThen_ok]
    rw [OW u v (by rw [hF];exact hu) (by rw [hF]) hn ho h0 h2 h3 h1 yw he hs hp];simp) k
end
section
variable {α:Type}
inductive On:Nat→α→α→List α→List α→Prop
  | z {A B:α} {G:List α} :On 0 A B (A::G) (B::G)
  | s {i:Nat} {A B C:α} {G G':List α} :On i A B G G'→On (i+1) A B (C::G) (C::G')
theorem On.get {i:Nat} {A B:α} {G G':List α} (h:On i A B G G'):G[i]?=some A:=by
  induction h with
  | z=>rfl
  | s _ ih=>simpa using ih
theorem On.set {i:Nat} {A B:α} {G G':List α} (h:On i A B G G'):G.set i B=G':=by
  induction h with
  | z=>rfl
  | s _ ih=>simpa using ih
inductive Ap:List α→List α→List α→Prop
  | z {M:List α} :Ap [] M M
  | s {C:α} {G M G':List α} :Ap G M G'→Ap (C::G) M (C::G')
theorem Ap.eq {G M G':List α} (h:Ap G M G'):G++M=G':=by
  induction h with
  | z=>rfl
  | s _ ih=>simp [ih]
inductive zk:List (List α)→List α→List (List α)→Prop
  | z:zk [] [] []
  | t {C:α} {M:List α} {G':List (List α)} :zk [] M G'→zk [] (C::M) ([C]::G')
  | s {C:List α} {G:List (List α)} {M:List α} {G':List (List α)} :zk G M G'→zk (C::G) M (C::G')
theorem zk.eq {G:List (List α)} {M:List α} {G':List (List α)} (h:zk G M G'):G'.flatten=G.flatten++M:=by
  induction h with
  | z=>rfl
  | t _ ih=>simpa using ih
  | s _ ih=>simp [ih]
inductive Dr:Nat→List α→List α→Prop
  | z {G:List α} :Dr 0 G G
  | s {i:Nat} {A:α} {G R:List α} :Dr i G R→Dr (i+1) (A::G) R
theorem Dr.eq {i:Nat} {G R:List α} (h:Dr i G R):G.drop i=R:=by
  induction h with
  | z=>rfl
  | s _ ih=>simpa using ih
inductive WG (F:List α):List Nat→List (List α)→Prop
  | z:WG F [] []
  | s {i:Nat} {l:List Nat} {c:α} {G:List (List α)} :F[i]?=some c→WG F l G→WG F (i::l) ([c]::G)
theorem WG.eq {F:List α} {l:List Nat} {G:List (List α)} (h:WG F l G):l.map (fun i=>F[i]?)=G.flatten.map some:=by
  induction h with
  | z=>rfl
  | s e _ ih=>simp [e,ih]
end
inductive Cp {α:Type} :List α→List α→Prop
  | z:Cp [] []
  | s {C:α} {G G':List α} :Cp G G'→Cp (C::G) (C::G')
theorem Cp.eq {α:Type} {G G':List α} (h:Cp G G'):G=G':=by
  induction h with
  | z=>rfl
  | s _ ih=>rw [ih]
inductive WE {α:Type} :Nat→List α→List α→List α→Prop
  | z {M:List α} :WE 0 M [] M
  | s {n:Nat} {x:α} {M B C:List α} :WE n M B C→WE (n+1) (x::M) (x::B) C
theorem WE.eq {α:Type} {n:Nat} {M B C:List α} (h:WE n M B C):M=B++C:=by
  induction h with
  | z=>rfl
  | s _ ih=>rw [ih];rfl
inductive Pk (Γ:Env):List Nat→Env→Prop
  | z:Pk Γ [] []
  | s {t:Nat} {v:Value} {ks:List Nat} {Γ':Env} :look Γ t=some v→Pk Γ ks Γ'→Pk Γ (t::ks) ((t,v)::Γ')
theorem Pk.eq {Γ:Env} {ks:List Nat} {Γ':Env} (h:Pk Γ ks Γ'):Sx.pick Γ ks=Γ':=by
  induction h with
  | z=>rfl
  | s e _ ih=>simp only [Sx.pick,e,ih]
inductive Sb (Γ:Env):Env→Prop
  | z:Sb Γ []
  | s {t:Nat} {v:Value} {Γ':Env} :look Γ t=some v→Sb Γ Γ'→Sb Γ ((t,v)::Γ')
theorem Sb.look {Γ Γ':Env} (h:Sb Γ Γ'):∀t v,Sx.look Γ' t=some v→Sx.look Γ t=some v:=by
  induction h with
  | z=>intro t v h;simp [Sx.look] at h
  | @s k u Γ' e _ ih=>
    intro t v h
    by_cases hk:k=t
    · subst hk;rw [dL] at h;rw [e];exact h
    · rw [dy u _ hk] at h;exact ih t v h
inductive Zp:Nat→List Value→Env→Prop
  | z {k:Nat} :Zp k [] []
  | s {k:Nat} {v:Value} {l:List Value} {Γ:Env} :Zp (k+1) l Γ→Zp k (v::l) ((k,v)::Γ)
theorem Zp.eq {k:Nat} {l:List Value} {Γ:Env} (h:Zp k l Γ):oW k l=Γ:=by
  induction h with
  | z=>rfl
  | s _ ih=>simp only [oW,ih]
section
variable {w w1 w2 w':World} {L A B M:List Chunk} {G G':List (List Chunk)}
theorem aA.un (h:aA w L w1 G) (i:Nat) (k:aE w1 A w2 B) (o:On i A B G G':=by repeat' first|exact On.z|apply On.s):aA w L w2 G':=o.set▸h.on i o.get k
theorem aA.nw (h:aA w L w1 G) (k:aE w1 [] w2 B) (o:Ap G [B] G':=by repeat' first|exact Ap.z|apply Ap.s):aA w L w2 G':=o.eq▸h.im k
theorem aA.ns (h:aA w L w1 G) (k:aE w1 [] w2 B) (o:zk G B G':=by repeat' first|exact zk.z|apply zk.s|apply zk.t):aA w L w2 G':=(h.im k).re (by rw [o.eq];simp)
theorem aA.nr {α:Type} (h:aA w L w1 G) (T:Ty α) (e:TypeId) (o:Ap G [[aj T (.slice none ([]:List α).length 0) e []]] G':=by repeat' first|exact Ap.z|apply Ap.s):aA w L w1 G':=o.eq▸h.im (aE.Cl w1 T e)
theorem aA.ps (h:aA w L w1 G) (l:List Nat) (o:WG G.flatten l G':=by repeat' first|exact WG.z|apply WG.s|rfl) (hn:decide l.Nodup=true:=by rfl):aA w L w1 G':=h.pm l o.eq hn
theorem aA.no (h:aA w L w1 G) (o:Cp G G':=by repeat' first|exact Cp.z|apply Cp.s):aA w L w1 G':=o.eq▸h
theorem aA.ox {C:List Chunk} {G1:List (List Chunk)} (h:aA w L w1 G) (i j:Nat) (k:aE w1 A w2 M) (s:WE j M B C:=by repeat' first|exact WE.z|apply WE.s) (o:On i A B G G1:=by repeat' first|exact On.z|apply On.s) (a:zk G1 C G':=by repeat' first|exact zk.z|apply zk.s|apply zk.t):aA w L w2 G':=(h.onX i o.get (s.eq▸k)).re (by rw [a.eq,←o.set];simp)
theorem aA.sn (h:aA w L w1 G) (o:zk [] G.flatten G':=by repeat' first|exact zk.z|apply zk.s|apply zk.t):aA w L w1 G':=h.re (by rw [o.eq];rfl)
theorem aA.rt {α:Type} {T:Ty α} {v:Value} {e:TypeId} {xs:List α} (h:aA w L w' G) (i:Nat) (hi:G[i]?=some [aj T v e xs]:=by rfl):bH T w' v xs:=h.Kc i hi
theorem aA.b {g:Nat} {cs:Array Value} {e:TypeId} (h:aA w L w' G) (i:Nat) (hi:G[i]?=some [Sx.bm g cs e]:=by rfl):w'.heap[g]?=some (.cells cs e (0,0)):=h.bm i hi
theorem aA.ow {α:Type} {T:Ty α} {v:Value} {e:TypeId} {xs:List α} (h:aA w L w' G) (i:Nat) (hi:G[i]?=some [aj T v e xs]:=by rfl):w'.ownsRow 0 e T.sz v xs.length (T.all xs):=h.PF i hi
theorem aA.dH (h:aA w L w' G) (i:Nat) (hi:G[i]?=some A:=by rfl):Hp w' A:=h.cB i hi
theorem aA.iz (h:aA w L w' G) (i:Nat) (hi:G[i]?=some A:=by rfl):aE w L w' A:=h.one i hi
theorem aA.se (h:aA w L w' G) (l:List Nat) (hl:l.map (fun i=>G.flatten[i]?)=M.map some:=by rfl) (hn:decide l.Nodup=true:=by rfl):aE w L w' M:=aE.j7 h hl hn
theorem Pa {α:Type} {T:Ty α} {v:Value} {e:TypeId} {xs:List α} (h:Hp w L) (i:Nat) (hi:L[i]?=some (aj T v e xs):=by rfl):bH T w v xs:=cQ h (List.mem_of_getElem? hi)
end
theorem X.aa6 {P:Program} {n:Nat} {Γ:Env} {w:World} {fn:Func} {R:Value→World→Prop} {r1 r2 r3:ResultVar} (hr:fn.results= #[r1,r2,r3]) {v1 v2 v3:Value} (h1:qN P Γ w r1 v1) (h2:qN P Γ w r2 v2) (h3:qN P Γ w r3 v3) (h:R (.tuple #[v1,v2,v3]) w):X n (bodyPost P fn (bj R)) .ret Γ w:=
  fun a ha=>bodyPost_ret (v:= .tuple #[v1,v2,v3]) (by
    have e1:=h1 a.tmps ha.slot
    have e2:=h2 a.tmps ha.slot
    have e3:=h3 a.tmps ha.slot
    simp [rj,hr,e1,e2,e3]) ha.defers ⟨_,rfl,h⟩
theorem X.afQ {P:Program} {fn:Func} {n:Nat} {Γ:Env} {w:World} {R:Value→World→Prop} {t u s r:Nat} (hr:fn.results= #[.tmp t,.tmp u,.tmp s,.tmp r]) {v1 v2 v3 v4:Value} (h1:look Γ t=some v1) (h2:look Γ u=some v2) (h3:look Γ s=some v3) (h4:look Γ r=some v4) (h:R (.tuple #[v1,v2,v3,v4]) w):X n (bodyPost P fn (bj R)) .ret Γ w:=
  fun a ha=>bodyPost_ret (v:= .tuple #[v1,v2,v3,v4]) (by simp only [results,hr];have e1:=ha.slot t v1 h1;have e2:=ha.slot u v2 h2;have e3:=ha.slot s v3 h3;have e4:=ha.slot r v4 h4;simp only [Array.getD_eq_getD_getElem?] at e1 e2 e3 e4;simp [e1,e2,e3,e4]) ha.defers ⟨_,rfl,h⟩
section
variable {P:Program} [Tb P] {n:Nat} {Q:Exit→Act→World→Prop} {w:World} {g:Gl} {al:Array Oper} {r:List Oper} {fs:List Fr} {Γ Γ':Env} {d:Nat} {o:Op} {ty:TypeId} {T:List Nat} {Pn:List pO}
def At (P:Program) [Tb P] (n k:Nat) (g:Gl) (d:Nat) (o:Op) (ty:TypeId) (al:Array Oper) (r:List Oper) (fs:List Fr) (Γ:Env):Prop:=
  ∃pos after gd,cu P n k g= .ops al ({ dst:=some d,op:=o,type:=ty,pos,after,guard:=gd } ::r) fs Γ∧N0 al Γ gd=some true∧Nat.blt d n=true
def At0 (P:Program) [Tb P] (n k:Nat) (g:Gl) (o:Op) (ty:TypeId) (al:Array Oper) (r:List Oper) (fs:List Fr) (Γ:Env):Prop:=
  ∃pos after gd,cu P n k g= .ops al ({ dst:=none,op:=o,type:=ty,pos,after,guard:=gd } ::r) fs Γ∧N0 al Γ gd=some true
theorem ae (k:Nat) (a:At P n k g d o ty al r fs Γ:=by exact ⟨_,_,_,rfl,rfl,rfl⟩) (h:az P Γ w o ty fun v w'=>Gl.is P n Q w' (.ops al r fs ((d,v)::Γ))):Gl.is P n Q w g:=by
  obtain ⟨_,_,_,e,hg,hd⟩:=a
  exact aD k g (e▸WL.gd (n:=n) (r:=r) (R:=QF P Q fs) hg hd h)
theorem aU (k:Nat) (a:At0 P n k g o ty al r fs Γ:=by exact ⟨_,_,_,rfl,rfl⟩) (h:az P Γ w o ty fun _ w'=>Gl.is P n Q w' (.ops al r fs Γ)):Gl.is P n Q w g:=by
  obtain ⟨_,_,_,e,hg⟩:=a
  exact aD k g (e▸WL.gd (n:=n) (r:=r) (R:=QF P Q fs) hg rfl h)
theorem aR {pos:String} {after:Array Edge} {gd:Option (Nat×Bool)} (k:Nat) (e:cu P n k g= .ops al ({ dst:=some d,op:=o,type:=ty,pos,after,guard:=gd } ::r) fs Γ) (h:az P Γ w o ty fun v w'=>Gl.is P n Q w' (.ops al r fs ((d,v)::Γ))) (hg:N0 al Γ gd=some true:=by rfl) (hd:Nat.blt d n=true:=by rfl):Gl.is P n Q w g:=ae k ⟨pos,after,gd,e,hg,hd⟩ h
theorem Cd {pos:String} {after:Array Edge} {gd:Option (Nat×Bool)} (k:Nat) (e:cu P n k g= .ops al ({ dst:=none,op:=o,type:=ty,pos,after,guard:=gd } ::r) fs Γ) (h:az P Γ w o ty fun _ w'=>Gl.is P n Q w' (.ops al r fs Γ)) (hg:N0 al Γ gd=some true:=by rfl):Gl.is P n Q w g:=aU k ⟨pos,after,gd,e,hg⟩ h
theorem aL {c:Operand} {x y:Code} {p:Prop} {i:Decidable p} (k:Nat) (h1:p→Gl.is P n Q w (.code x fs Γ)) (h2:¬p→Gl.is P n Q w (.code y fs Γ)) (e:cu P n k g= .code (.cond c x y) fs Γ:=by rfl) (hc:ev Γ c=some (.bool (decide p)):=by rfl):Gl.is P n Q w g:=
  aD k g (e▸W.ite hc h1 h2)
theorem cS {c:Operand} {x y:Code} {b:Bool} (k:Nat) (h1:b=true→Gl.is P n Q w (.code x fs Γ)) (h2:¬b=true→Gl.is P n Q w (.code y fs Γ)) (e:cu P n k g= .code (.cond c x y) fs Γ:=by rfl) (hc:ev Γ c=some (.bool b):=by rfl):Gl.is P n Q w g:=
  aD k g (e▸W.agk hc h1 h2)
theorem bZ {p:Prop} {i:Decidable p} (k t:Nat) (h1:p→Gl.is P n Q w (.ops al r fs ((t,.bool true)::Γ))) (h2:¬p→Gl.is P n Q w (.ops al r fs ((t,.bool false)::Γ))) (e:cu P n k g= .ops al r fs Γ:=by rfl) (hc:look Γ t=some (.bool (decide p)):=by rfl):Gl.is P n Q w g:=
  aD k g (e▸WL.part t hc h1 h2)
theorem ik {b:Bool} (k t:Nat) (h1:b=true→Gl.is P n Q w (.ops al r fs ((t,.bool true)::Γ))) (h2:¬b=true→Gl.is P n Q w (.ops al r fs ((t,.bool false)::Γ))) (e:cu P n k g= .ops al r fs Γ:=by rfl) (hc:look Γ t=some (.bool b):=by rfl):Gl.is P n Q w g:=
  aD k g (e▸WL.PD t hc h1 h2)
theorem Ps {p:Prop} {i:Decidable p} (k t:Nat) (h1:p→Gl.is P n Q w (.draw al T Pn fs ((t,.bool true)::Γ))) (h2:¬p→Gl.is P n Q w (.draw al T Pn fs ((t,.bool false)::Γ))) (e:cu P n k g= .draw al T Pn fs Γ:=by rfl) (hc:look Γ t=some (.bool (decide p)):=by rfl):Gl.is P n Q w g:=
  aD k g (e▸(fun bX=>WD.part t hc (fun hp=>h1 hp bX) fun hp=>h2 hp bX:Gl.is P n Q w (.draw al T Pn fs Γ)))
theorem EI {b:Bool} (k t:Nat) (h1:b=true→Gl.is P n Q w (.draw al T Pn fs ((t,.bool true)::Γ))) (h2:¬b=true→Gl.is P n Q w (.draw al T Pn fs ((t,.bool false)::Γ))) (e:cu P n k g= .draw al T Pn fs Γ:=by rfl) (hc:look Γ t=some (.bool b):=by rfl):Gl.is P n Q w g:=
  aD k g (e▸(fun bX=>WD.PD t hc (fun hp=>h1 hp bX) fun hp=>h2 hp bX:Gl.is P n Q w (.draw al T Pn fs Γ)))
theorem cG {c:Code} (k:Nat) (ks:List Nat) (e:cu P n k g= .code c fs Γ:=by rfl) (hk:Pk Γ ks Γ':=by repeat' first|exact Pk.z|apply Pk.s|rfl) (h:Gl.is P n Q w (.code c fs Γ')):Gl.is P n Q w g:=
  aD k g (e▸W.pick ks hk.eq h)
variable {fn:Func} {R:Value→World→Prop} {v v1 v2 v3 v4:Value}
theorem bE {t:Nat} (k:Nat) (e:cu P n k g= .ret Γ:=by rfl) (hr:fn.results= #[.tmp t]:=by rfl) (hv:look Γ t=some v:=by rfl) (h:R v w):Gl.is P n (bodyPost P fn (bj R)) w g:=aD k g (e▸X.afT hr hv h)
theorem gr {t u:Nat} (k:Nat) (e:cu P n k g= .ret Γ:=by rfl) (hr:fn.results= #[.tmp t,.tmp u]:=by rfl) (h1:look Γ t=some v1:=by rfl) (h2:look Γ u=some v2:=by rfl) (h:R (.tuple #[v1,v2]) w):Gl.is P n (bodyPost P fn (bj R)) w g:=aD k g (e▸X.afS hr h1 h2 h)
theorem nP {t u s:Nat} (k:Nat) (e:cu P n k g= .ret Γ:=by rfl) (hr:fn.results= #[.tmp t,.tmp u,.tmp s]:=by rfl) (h1:look Γ t=some v1:=by rfl) (h2:look Γ u=some v2:=by rfl) (h3:look Γ s=some v3:=by rfl) (h:R (.tuple #[v1,v2,v3]) w):Gl.is P n (bodyPost P fn (bj R)) w g:=aD k g (e▸X.afR hr h1 h2 h3 h)
theorem nG {a1:ResultVar} (k:Nat) (e:cu P n k g= .ret Γ:=by rfl) (hr:fn.results= #[a1]:=by rfl) (h1:qN P Γ w a1 v1) (h:R v1 w):Gl.is P n (bodyPost P fn (bj R)) w g:=aD k g (e▸X.aa8 hr h1 h)
theorem fx {a1 a2:ResultVar} (k:Nat) (e:cu P n k g= .ret Γ:=by rfl) (hr:fn.results= #[a1,a2]:=by rfl) (h1:qN P Γ w a1 v1) (h2:qN P Γ w a2 v2) (h:R (.tuple #[v1,v2]) w):Gl.is P n (bodyPost P fn (bj R)) w g:=aD k g (e▸X.aa7 hr h1 h2 h)
theorem NL {t u s q:Nat} (k:Nat) (e:cu P n k g= .ret Γ:=by rfl) (hr:fn.results= #[.tmp t,.tmp u,.tmp s,.tmp q]:=by rfl) (h1:look Γ t=some v1:=by rfl) (h2:look Γ u=some v2:=by rfl) (h3:look Γ s=some v3:=by rfl) (h4:look Γ q=some v4:=by rfl) (h:R (.tuple #[v1,v2,v3,v4]) w):Gl.is P n (bodyPost P fn (bj R)) w g:=aD k g (e▸X.afQ hr h1 h2 h3 h4 h)
theorem vT {a1 a2 a3:ResultVar} (k:Nat) (e:cu P n k g= .ret Γ:=by rfl) (hr:fn.results= #[a1,a2,a3]:=by rfl) (h1:qN P Γ w a1 v1) (h2:qN P Γ w a2 v2) (h3:qN P Γ w a3 v3) (h:R (.tuple #[v1,v2,v3]) w):Gl.is P n (bodyPost P fn (bj R)) w g:=aD k g (e▸X.aa6 hr h1 h2 h3 h)
theorem GN (k:Nat) (e:cu P n k g= .norm [] Γ:=by rfl) (hr:fn.results= #[]:=by rfl) (h:R (.tuple #[]) w):Gl.is P n (bodyPost P fn (bj R)) w g:=aD k g (e▸(X.aia hr h:X n (QF P (bodyPost P fn (bj R)) []) .normal Γ w))
theorem ryZ (k:Nat) (e:cu P n k g= .ret Γ:=by rfl) (hr:fn.results= #[]:=by rfl) (h:R (.tuple #[]) w):Gl.is P n (bodyPost P fn (bj R)) w g:=aD k g (e▸X.afU hr h)
theorem cZ {t:Tmp} (h:look Γ t=some v:=by rfl):qN P Γ w (.tmp t) v:=W6 h
theorem cK {a:Tmp} {t:TypeId} {d:TypeDesc} {g off s b:Nat} {z:Option Value} {cs:Array Value} {e:TypeId} {us:List Value} (hb:w.heap[g]?=some (.cells cs e (0,0))) (hu:P.underlying t=some d:=by exact Tb.U rfl) (hd:lV d=true:=by rfl) (hs:cp P t=some (s,b,z):=by exact Tb.S rfl) (h:look Γ a=some (.pointer (some ⟨g,off,none⟩)):=by rfl) (hc:Cp ((cs.toList.drop off).take s) us:=by repeat' first|exact Cp.z|apply Cp.s) (hl:us.length=s:=by rfl):qN P Γ w (.cell a t) (.agg us.toArray):=OV us hu hd hs h hb hl hc.eq
theorem cY {c:Code} {B:Env} {Ro:List (List Chunk)} {L:List Chunk} {m:Nat} (k:Nat) (ks:List Nat) (I:Env→List (List Chunk)→List Chunk→Nat→Env→World→Prop) (e:cu P n k g= .code (.loop c) fs Γ:=by rfl) (hk:Pk Γ ks Γ':=by repeat' first|exact Pk.z|apply Pk.s|rfl) (i:I B Ro L m Γ' w)
    (h:∀m Γ w,I B Ro L m Γ w→Gl.is P n Q w (.code c (.iv (fun a' w'=>∃m',m'<m∧∃Γ',du n a' Γ'∧I B Ro L m' Γ' w')::fs) Γ)):Gl.is P n Q w g:=aD k g (e▸W.lp ks I m i hk.eq h)
theorem mK {x y:Code} {B:Env} {Ro G:List (List Chunk)} {L:List Chunk} {w0:World} (k:Nat) (bs:List Nat) (j:Nat) (H:aA w0 L w G) (I:Env→List (List Chunk)→List Chunk→Env→World→Prop)
    (h1:Gl.is P n Q w (.code x (.iv (fun a' w'=>∃Γ',du n a' Γ'∧I B Ro L Γ' w')::fs) Γ)) (h2:∀Γ w,I B Ro L Γ w→Gl.is P n Q w (.code y fs Γ)) (e:cu P n k g= .code (.seq x y) fs Γ:=by rfl) (hB:Pk Γ bs B:=by repeat' first|exact Pk.z|apply Pk.s|rfl) (hR:Dr j G Ro:=by repeat' first|exact Dr.z|apply Dr.s):Gl.is P n Q w g:=
  aD k g (e▸W.ct bs j hB.eq H hR.eq I h1 h2)
theorem afP {c:Code} (k j:Nat) (e:cu P n k g= .code (.loop c) fs Γ:=by rfl) (h:Gl.is P n Q w (.code c (.iv (vO P c (QF P Q fs) j)::fs) Γ)):Gl.is P n Q w g:=aD k g (e▸W.roll j h)
theorem W8 {c:Code} {j:Nat} (k:Nat) (ks:List Nat) (e:cu P n k g= .norm (.iv (vO P c (QF P Q fs) (j+1))::fs) Γ:=by rfl) (hk:Pk Γ ks Γ':=by repeat' first|exact Pk.z|apply Pk.s|rfl) (h:Gl.is P n Q w (.code c (.iv (vO P c (QF P Q fs) j)::fs) Γ')):Gl.is P n Q w g:=aD k g (e▸X.roll ks hk.eq h)
theorem b6 {I:Nat→Env→World→Prop} {m m':Nat} (k:Nat) (e:cu P n k g= .norm (.iv (fun a' w'=>∃m',m'<m∧∃Γ',du n a' Γ'∧I m' Γ' w')::fs) Γ:=by rfl) (h:I m' Γ' w) (hs:Sb Γ Γ':=by repeat' first|exact Sb.z|apply Sb.s|rfl) (hm:m'<m:=by omega):Gl.is P n Q w g:=
  aD k g (e▸fun a ha=>⟨m',hm,Γ',ha.sub hs.look,h⟩)
theorem cy {I:Env→World→Prop} (k:Nat) (e:cu P n k g= .norm (.iv (fun a' w'=>∃Γ',du n a' Γ'∧I Γ' w')::fs) Γ:=by rfl) (h:I Γ' w) (hs:Sb Γ Γ':=by repeat' first|exact Sb.z|apply Sb.s|rfl):Gl.is P n Q w g:=
  aD k g (e▸fun a ha=>⟨Γ',ha.sub hs.look,h⟩)
theorem nyZ {I:Nat→Env→World→Prop} {m m':Nat} (k:Nat) (ks:List Nat) (e:cu P n k g= .norm (.iv (fun a' w'=>∃m',m'<m∧∃Γ',du n a' Γ'∧I m' Γ' w')::fs) Γ:=by rfl) (hk:Pk Γ ks Γ':=by repeat' first|exact Pk.z|apply Pk.s|rfl) (h:I m' Γ' w) (hm:m'<m:=by omega):Gl.is P n Q w g:=
  aD k g (e▸fun a ha=>⟨m',hm,Γ',hk.eq▸ha.pick ks,h⟩)
theorem dyZ {I:Env→World→Prop} (k:Nat) (ks:List Nat) (e:cu P n k g= .norm (.iv (fun a' w'=>∃Γ',du n a' Γ'∧I Γ' w')::fs) Γ:=by rfl) (hk:Pk Γ ks Γ':=by repeat' first|exact Pk.z|apply Pk.s|rfl) (h:I Γ' w):Gl.is P n Q w g:=
  aD k g (e▸fun a ha=>⟨Γ',hk.eq▸ha.pick ks,h⟩)
theorem eI {id:Nat} {l:List Oper} {L:List Chunk} {w0:World} {G:List (List Chunk)} (k:Nat) (H:aA w0 L w G) (e:cu P n k g= .code (.region id l.toArray true) fs Γ:=by rfl) (bX:fv l.toArray=true:=by kernel_rfl) (h:∀w',aA w0 L w' G→Gl.is P n Q w' (.draw l.toArray [] [] fs Γ)):Gl.is P n Q w g:=
  aD k g (e▸W.Tz Tb.mx bX fun hk w' k=>h w' (H.kept k) hk)
def WQ (P:Program) [Tb P] (n k j:Nat) (g:Gl) (d:Nat) (o:Op) (ty:TypeId) (al:Array Oper) (T:List Nat) (Pn:List pO) (fs:List Fr) (Γ:Env):Prop:=
  ∃pos after gd,cu P n k g= .draw al T Pn fs Γ∧al[j]?=some { dst:=some d,op:=o,type:=ty,pos,after,guard:=gd } ∧Nat.blt d n=true∧T.contains j=false∧(dh al j).all T.contains=true∧lY al Γ { dst:=some d,op:=o,type:=ty,pos,after,guard:=gd } =some true
theorem gZ (k j:Nat) (a:WQ P n k j g d o ty al T Pn fs Γ:=by exact ⟨_,_,_,rfl,rfl,rfl,rfl,rfl,rfl⟩) (D:∀w',az P Γ w' o ty fun v' lZ=>v'=v∧lZ=w') (h:Gl.is P n Q w (.draw al (j::T) (⟨j,v,fun _=>True⟩::Pn) fs ((d,v)::Γ))):Gl.is P n Q w g:=by
  obtain ⟨_,_,_,e,h1,h2,h3,h4,h5⟩:=a
  exact aD k g (e▸(fun bX=>tq bX j h1 rfl D (h bX) h2 h3 h4 h5:Gl.is P n Q w (.draw al T Pn fs Γ)))
theorem bY {α:Type} {U:Ty α} {v0:Value} {xs:List α} (k j:Nat) (C:bH U w v0 xs) (a:WQ P n k j g d o ty al T Pn fs Γ:=by exact ⟨_,_,_,rfl,rfl,rfl,rfl,rfl,rfl⟩) (D:∀w',bH U w' v0 xs→az P Γ w' o ty fun v' lZ=>v'=v∧lZ=w') (h:Gl.is P n Q w (.draw al (j::T) (⟨j,v,fun w'=>bH U w' v0 xs⟩::Pn) fs ((d,v)::Γ))):Gl.is P n Q w g:=by
  obtain ⟨_,_,_,e,h1,h2,h3,h4,h5⟩:=a
  exact aD k g (e▸(fun bX=>tr bX j C h1 rfl D (h bX) h2 h3 h4 h5:Gl.is P n Q w (.draw al T Pn fs Γ)))
theorem cP {b:Nat} {ob:Obj} (k j:Nat) (C:w.heap[b]?=some ob) (a:WQ P n k j g d o ty al T Pn fs Γ:=by exact ⟨_,_,_,rfl,rfl,rfl,rfl,rfl,rfl⟩) (D:∀w',w'.heap[b]?=some ob→az P Γ w' o ty fun v' lZ=>v'=v∧lZ=w') (h:Gl.is P n Q w (.draw al (j::T) (⟨j,v,fun w'=>w'.heap[b]?=some ob⟩::Pn) fs ((d,v)::Γ))):Gl.is P n Q w g:=by
  obtain ⟨_,_,_,e,h1,h2,h3,h4,h5⟩:=a
  exact aD k g (e▸(fun bX=>tb bX j C h1 rfl D (h bX) h2 h3 h4 h5:Gl.is P n Q w (.draw al T Pn fs Γ)))
theorem twZ (k j:Nat) (C:World→Prop) (hC:C w) (a:WQ P n k j g d o ty al T Pn fs Γ:=by exact ⟨_,_,_,rfl,rfl,rfl,rfl,rfl,rfl⟩) (D:∀w',C w'→az P Γ w' o ty fun v' lZ=>v'=v∧lZ=w') (h:Gl.is P n Q w (.draw al (j::T) (⟨j,v,C⟩::Pn) fs ((d,v)::Γ))):Gl.is P n Q w g:=by
  obtain ⟨_,_,_,e,h1,h2,h3,h4,h5⟩:=a
  exact aD k g (e▸(fun bX=>tw bX j C hC h1 rfl D (h bX) h2 h3 h4 h5:Gl.is P n Q w (.draw al T Pn fs Γ)))
inductive zj (p:pO→Bool):List pO→List pO→Prop
  | z:zj p [] []
  | y {a:pO} {l m:List pO} :p a=true→zj p l m→zj p (a::l) (a::m)
  | x {a:pO} {l m:List pO} :p a=false→zj p l m→zj p (a::l) m
theorem zj.eq {p:pO→Bool} {l m:List pO} (h:zj p l m):l.filter p=m:=by
  induction h with
  | z=>rfl
  | y e _ ih=>simp [e,ih]
  | x e _ ih=>simp [e,ih]
def AtL (P:Program) [Tb P] (n k j:Nat) (g:Gl) (d:Option Nat) (o:Op) (ty:TypeId) (al:Array Oper) (T:List Nat) (Pn:List pO) (fs:List Fr) (Γ:Env):Prop:=
  ∃pos after gd,cu P n k g= .draw al T Pn fs Γ∧al[j]?=some { dst:=d,op:=o,type:=ty,pos,after,guard:=gd } ∧(match d with|some d=>Nat.blt d n|none=>true)=true∧T.contains j=false∧(dh al j).all T.contains=true∧lY al Γ { dst:=d,op:=o,type:=ty,pos,after,guard:=gd } =some true
theorem c7 {d:Option Nat} {Pm:List pO} (k j:Nat) (a:AtL P n k j g d o ty al T Pn fs Γ:=by exact ⟨_,_,_,rfl,rfl,rfl,rfl,rfl,rfl⟩) (ho:((List.range al.size).all fun i=>[j].contains i||T.contains i|| !((dh al i).all T.contains))=true:=by rfl)
    (f:zj (fun p=> !(Dq al j).contains p.k) Pn Pm:=by repeat' first|exact zj.z|(apply zj.y;rfl)|(apply zj.x;rfl)) (D:az P Γ w o ty fun v w'=>Still w' Pm∧Gl.is P n Q w' (.draw al (j::T) Pm fs (B7 Γ d v))):Gl.is P n Q w g:=by
  obtain ⟨_,_,_,e,h1,h2,h3,h4,h5⟩:=a
  exact aD k g (e▸(fun bX=>WD.abH bX j ho ⟨_,Pm,h1,h3,h4,h2,h5,f.eq,D.mono fun v w' h=>⟨h.1,h.2 bX⟩⟩:Gl.is P n Q w (.draw al T Pn fs Γ)))
theorem mN (k j:Nat) (a:WQ P n k j g d o ty al T Pn fs Γ) (D:∀w',az P Γ w' o ty fun v' lZ=>v'=v∧lZ=w') (h:Gl.is P n Q w (.draw al (j::T) (⟨j,v,fun _=>True⟩::Pn) fs ((d,v)::Γ))):Gl.is P n Q w g:=gZ k j a D h
theorem WX {α:Type} {U:Ty α} {v0:Value} {xs:List α} (k j:Nat) (C:bH U w v0 xs) (a:WQ P n k j g d o ty al T Pn fs Γ) (D:∀w',bH U w' v0 xs→az P Γ w' o ty fun v' lZ=>v'=v∧lZ=w') (h:Gl.is P n Q w (.draw al (j::T) (⟨j,v,fun w'=>bH U w' v0 xs⟩::Pn) fs ((d,v)::Γ))):Gl.is P n Q w g:=bY k j C a D h
theorem Ox {b:Nat} {ob:Obj} (k j:Nat) (C:w.heap[b]?=some ob) (a:WQ P n k j g d o ty al T Pn fs Γ) (D:∀w',w'.heap[b]?=some ob→az P Γ w' o ty fun v' lZ=>v'=v∧lZ=w') (h:Gl.is P n Q w (.draw al (j::T) (⟨j,v,fun w'=>w'.heap[b]?=some ob⟩::Pn) fs ((d,v)::Γ))):Gl.is P n Q w g:=cP k j C a D h
theorem afD (k j:Nat) (C:World→Prop) (hC:C w) (a:WQ P n k j g d o ty al T Pn fs Γ) (D:∀w',C w'→az P Γ w' o ty fun v' lZ=>v'=v∧lZ=w') (h:Gl.is P n Q w (.draw al (j::T) (⟨j,v,C⟩::Pn) fs ((d,v)::Γ))):Gl.is P n Q w g:=twZ k j C hC a D h
theorem vQ {d:Option Nat} {Pm:List pO} (k j:Nat) (a:AtL P n k j g d o ty al T Pn fs Γ) (D:az P Γ w o ty fun v w'=>Still w' Pm∧Gl.is P n Q w' (.draw al (j::T) Pm fs (B7 Γ d v))) (ho:((List.range al.size).all fun i=>[j].contains i||T.contains i|| !((dh al i).all T.contains))=true:=by rfl) (f:zj (fun p=> !(Dq al j).contains p.k) Pn Pm:=by repeat' first|exact zj.z|(apply zj.y;rfl)|(apply zj.x;rfl)):Gl.is P n Q w g:=c7 k j a ho f D
def LdG (P:Program) (n:Nat) (Q:Exit→Act→World→Prop) (w:World) (al:Array Oper) (T:List Nat) (Pn:List pO) (fs:List Fr) (Γ:Env) (j:Nat):Prop:=fv al=true→Sp P n al (QF P Q fs) T Pn Γ w j
theorem S4 (k:Nat) (js:List Nat) (h:∀j,j∈js→LdG P n Q w al T Pn fs Γ j) (e:cu P n k g= .draw al T Pn fs Γ:=by rfl) (c0:js.isEmpty=false:=by rfl) (ho:((List.range al.size).all fun i=>js.contains i||T.contains i|| !((dh al i).all T.contains))=true:=by rfl):Gl.is P n Q w g:=
  aD k g (e▸(fun bX=>WD.VP bX js c0 ho fun j hj=>h j hj bX:Gl.is P n Q w (.draw al T Pn fs Γ)))
theorem DT {d:Option Nat} {Pm:List pO} {j:Nat} (a:AtL P n 0 j (.draw al T Pn fs Γ) d o ty al T Pn fs Γ:=by exact ⟨_,_,_,rfl,rfl,rfl,rfl,rfl,rfl⟩) (f:zj (fun p=> !(Dq al j).contains p.k) Pn Pm:=by repeat' first|exact zj.z|(apply zj.y;rfl)|(apply zj.x;rfl)) (D:az P Γ w o ty fun v w'=>Still w' Pm∧Gl.is P n Q w' (.draw al (j::T) Pm fs (B7 Γ d v))):LdG P n Q w al T Pn fs Γ j:=by
  obtain ⟨_,_,_,e,h1,h2,h3,h4,h5⟩:=a
  exact fun bX=>⟨_,Pm,h1,h3,h4,h2,h5,f.eq,D.mono fun v w' h=>⟨h.1,h.2 bX⟩⟩
theorem aaC {d:Option Nat} {Pm:List pO} {j:Nat} (a:AtL P n 0 j (.draw al T Pn fs Γ) d o ty al T Pn fs Γ) (D:az P Γ w o ty fun v w'=>Still w' Pm∧Gl.is P n Q w' (.draw al (j::T) Pm fs (B7 Γ d v))) (f:zj (fun p=> !(Dq al j).contains p.k) Pn Pm:=by repeat' first|exact zj.z|(apply zj.y;rfl)|(apply zj.x;rfl)):LdG P n Q w al T Pn fs Γ j:=DT a f D
end
theorem cL {P:Program} {f:FuncId} {fn:Func} {c:Code} {args:List Value} {w:World} {R:Value→World→Prop} {m:Nat} {Γ:Env}
    (hf:P.funcs[f]?=some fn) (hb:fn.body=some c:=by rfl) (hm:fn.ntmps=m:=by rfl) (hl:Nat.ble args.length m=true:=by rfl) (hz:Zp 0 args Γ:=by repeat' first|exact Zp.z|apply Zp.s) (h:aA w [] w []→Gl.is P m (bodyPost P fn (bj R)) w (.code c [] Γ)):Calls P f args.toArray w (bj R):=y4 hf hb hm hl (hz.eq▸h (aA.nil w))
theorem uZ {P:Program} {f:FuncId} {fn:Func} {c:Code} {args:List Value} {w:World} {R:Value→World→Prop} {m:Nat} {Γ:Env} {L:List Chunk} {G:List (List Chunk)}
    (hp:Hp w L) (hf:P.funcs[f]?=some fn) (hb:fn.body=some c:=by rfl) (hm:fn.ntmps=m:=by rfl) (hl:Nat.ble args.length m=true:=by rfl) (hz:Zp 0 args Γ:=by repeat' first|exact Zp.z|apply Zp.s) (hG:zk [] L G:=by repeat' first|exact zk.z|apply zk.s|apply zk.t) (h:aA w L w G→Gl.is P m (bodyPost P fn (bj R)) w (.code c [] Γ)):Calls P f args.toArray w (bj R):=y4 hf hb hm hl (hz.eq▸h ((aA.refl hp).re (by rw [hG.eq];simp)))
abbrev av (x:BitVec 64):Value:= .int .u64 ((x.toNat:Nat):Int)
abbrev aG {α:Type} (a:Option Addr) (l:List α) (c:Nat):Value:= .slice a l.length c
abbrev ak (x:Int):Value:= .int .i64 x
abbrev bJ (x:Nat):Value:= .int .i64 (x:Int)
abbrev cg {α:Type} (T:Ty α) (e:TypeId) (a:Option Addr) (l:List α) (c:Nat):Chunk:=aj T (.slice a l.length c) e l
abbrev cd {α:Type} (T:Ty α) (w:World) (a:Option Addr) (l:List α) (c:Nat):Prop:=bH T w (.slice a l.length c) l
instance {k:IntKind} :Df (aw k) 0:=⟨trivial⟩
instance:Df bu false:=⟨trivial⟩
instance {α:Type} :Df (aW (α:=α)) ai:=⟨trivial⟩
instance:Df fh 0:=⟨trivial⟩
instance:Df qy ⟨0,0⟩:=⟨trivial⟩
instance:Df WW A9:=⟨trivial⟩
instance:Df dT dz:=⟨trivial⟩
instance:Df aJ cb:=⟨trivial⟩
instance:Df aP aq:=⟨trivial⟩
instance:Df gR fV:=⟨trivial⟩
instance:Df aaI tp0:=⟨trivial⟩
section
variable {P:Program} [Tb P] {w:World} {Γ:Env} {ty t e xt yt:TypeId} {K:Value→World→Prop} {x y ix:Operand} {a b:Int} {w0:World} {L:List Chunk} {G G':List (List Chunk)} {v:Value} {g off s bb:Nat} {z:Option Value} {cs:Array Value} {us l':List Value} {de:TypeDesc}
theorem aX (hx:ev Γ x=some (.int .i64 a):=by rfl) (hy:ev Γ y=some (.int .i64 b):=by rfl) (h1: -9223372036854775808≤a+b:=by omega) (h2:a+b≤9223372036854775807:=by omega) (k:K (.int .i64 (a+b)) w:=by exact ⟨rfl,rfl⟩):az P Γ w (.binOp .add xt x y yt) ty K:=adM hx hy h1 h2 k
theorem jK (hx:ev Γ x=some (.int .i64 a):=by rfl) (hy:ev Γ y=some (.int .i64 b):=by rfl) (h1: -9223372036854775808≤a-b:=by omega) (h2:a-b≤9223372036854775807:=by omega) (k:K (.int .i64 (a-b)) w:=by exact ⟨rfl,rfl⟩):az P Γ w (.binOp .sub xt x y yt) ty K:=adI hx hy h1 h2 k
theorem GP (hx:ev Γ x=some (.int .i64 a):=by rfl) (hy:ev Γ y=some (.int .i64 b):=by rfl) (h1: -9223372036854775808≤a*b:=by omega) (h2:a*b≤9223372036854775807:=by omega) (k:K (.int .i64 (a*b)) w:=by exact ⟨rfl,rfl⟩):az P Γ w (.binOp .mul xt x y yt) ty K:=adK hx hy h1 h2 k
theorem aH (C:w.heap[g]?=some (.cells cs e (0,0))) (ht:P.underlying t=some de:=by exact Tb.U rfl) (hd:lV de=false:=by rfl) (hx:ev Γ x=some (.pointer (some ⟨g,off,none⟩)):=by rfl) (hv:cs.toList[off]?=some v:=by rfl) (k:K v w:=by exact ⟨rfl,rfl⟩):az P Γ w (.load t x) ty K:=La ht hd hx C (by simpa using hv) k
theorem b8 (C:w.heap[g]?=some (.cells cs e (0,0))) (ht:P.underlying t=some de:=by exact Tb.U rfl) (hd:lV de=true:=by rfl) (hs:cp P t=some (s,bb,z):=by exact Tb.S rfl) (hx:ev Γ x=some (.pointer (some ⟨g,off,none⟩)):=by rfl) (hc:Cp ((cs.toList.drop off).take s) us:=by repeat' first|exact Cp.z|apply Cp.s) (hl:us.length=s:=by rfl) (k:K (.agg us.toArray) w:=by exact ⟨rfl,rfl⟩):az P Γ w (.load t x) ty K:=Rj us ht hd hs hx C hl hc.eq k
theorem jA (H:aA w0 L w G) (i:Nat) (hs:cp P t=some (1,bb,z):=by exact Tb.S rfl) (hx:ev Γ x=some (.pointer (some ⟨g,off,none⟩)):=by rfl) (hy:ev Γ y=some v:=by rfl) (h1:v.oneCell'=true:=by rfl) (o:On i [Sx.bm g cs e] [Sx.bm g (cs.setIfInBounds off v) e] G G':=by repeat' first|exact On.z|apply On.s) (hl:Nat.blt off cs.size=true:=by rfl) (k:∀w',aA w0 L w' G'→K undef w'):az P Γ w (.store t x y) ty K:=
  Ga hs hx hy h1 (H.bm i o.get) hl fun w' u=>k w' (o.set▸H.on i o.get u)
theorem bC (H:aA w0 L w G) (i:Nat) (hs:cp P t=some (s,bb,z):=by exact Tb.S rfl) (hx:ev Γ x=some (.pointer (some ⟨g,off,none⟩)):=by rfl) {X:Array Value} (hy:ev Γ y=some (.agg X):=by rfl) (hu:Cp X.toList us:=by repeat' first|exact Cp.z|apply Cp.s) (hl:us.length=s:=by rfl) (h1:us.all (·.oneCell')=true:=by rfl) (o:On i [Sx.bm g cs e] [Sx.bm g l'.toArray e] G G':=by repeat' first|exact On.z|apply On.s) (hc:Cp (cs.toList.take off++us++cs.toList.drop (off+us.length)) l':=by repeat' first|exact Cp.z|apply Cp.s) (hle:Nat.ble (off+us.length) cs.size=true:=by rfl) (k:∀w',aA w0 L w' G'→K undef w'):az P Γ w (.store t x y) ty K:=
  Nj hs hx (by rw [hy,←hu.eq]) hl h1 (H.bm i o.get) hle (UX:=l'.toArray) (by rw [hc.eq]) fun w' u=>k w' (o.set▸H.on i o.get u)
theorem da {z:Value} (H:aA w0 L w G) (hs:cp P e=some (s,bb,some z):=by exact Tb.S rfl) (o:Ap G [[Sx.bm w.heap.size z.cells e]] G':=by repeat' first|exact Ap.z|apply Ap.s) (k:∀w',aA w0 L w' G'→K (.pointer (some ⟨w.heap.size,0,none⟩)) w'):az P Γ w (.alloc e) ty K:=
  UU hs fun w' u=>k w' (o.eq▸H.im u)
theorem gI (H:aA w0 L w G) (hx:ev Γ x=some v:=by rfl) (o:Ap G [[Sx.bm w.heap.size v.cells e]] G':=by repeat' first|exact Ap.z|apply Ap.s) (k:∀w',aA w0 L w' G'→K (.pointer (some ⟨w.heap.size,0,none⟩)) w'):az P Γ w (.box e x) ty K:=
  adL hx fun w' u=>k w' (o.eq▸H.im u)
def Wo (P:Program) [T:Tb P] (t:TypeId):List (Nat×Value)→List Value→List Value
  | [],c=>c
  | (i,v)::r,c=>Wo P t r (match VR T.f t i with|some (off,s,_)=>c.take off++v.cells.toList++c.drop (off+s)|none=>c.set i v)
theorem ck {z:Value} {ps:Array (Nat×Operand)} {vs:List (Nat×Value)} (hs:cp P t=some (s,bb,some z):=by exact Tb.S rfl) (hp:Ng Γ ps.toList=some vs:=by rfl) (hf:Cp (Wo P t vs z.cells.toList) us:=by repeat' first|exact Cp.z|apply Cp.s) (hb:P.built t vs=some us.toArray:=by kernel_rfl) (k:K (.agg us.toArray) w:=by exact ⟨rfl,rfl⟩):az P Γ w (.build t ps) ty K:=UT hp hb k
theorem kn {q:ByteArray} {kd:IntKind} {i:Int} (j:Nat) (ht:P.underlying t=some .string:=by exact Tb.U rfl) (hx:ev Γ x=some (.string q):=by rfl) (hi:ev Γ ix=some (.int kd i):=by rfl) (cN:i=((j:Nat):Int):=by rfl) (hj:j<q.size:=by omega) (k:K (.int .u8 ((bn q j:Nat):Int)) w:=by exact ⟨rfl,rfl⟩):az P Γ w (.index t x ix) ty K:=Nl j ht hx hi cN hj k
theorem aM {f:FuncId} {xs:Array Operand} {ts:Array TypeId} {vs:List Value} {R:Value→World→Prop} (hk:gJ P f:=by exact Tb.C rfl) (hx:Nf Γ xs.toList=some vs:=by rfl) (c:Calls P f vs.toArray w (bj R)) (k:∀v w',R v w'→K v w'):az P Γ w (.call { callee:= .value (.func f),args:=xs,argTypes:=ts }) ty K:=Y2 hk hx (bj.calls c k)
theorem kT {src dst:TypeId} {kd ks:IntKind} {ds:TypeDesc} (hs:P.underlying src=some ds:=by exact Tb.U rfl) (hd:P.underlying dst=some (.int kd):=by exact Tb.U rfl) (hx:ev Γ x=some (.int ks a):=by rfl) (h:(if kd.signed then-(2^(kd.bits-1):Int) else 0)≤a∧a≤kd.max:=by simp [IntKind.signed,IntKind.bits,IntKind.max];omega) (k:K (.int kd a) w:=by exact ⟨rfl,rfl⟩):az P Γ w (.convert src dst x) ty K:=UO hs hd hx h k
variable {α:Type} {T:Ty α} {xs ys:List α} {df:α} {A:aO} {c cx:Nat}
theorem bU {kd:IntKind} {i:Int} (j:Nat) (C:bH T w v xs) (hT:T.sz=1:=by rfl) (ht:P.underlying t=some (.slice e):=by exact Tb.U rfl) (hs:cp P e=some (1,bb,z):=by exact Tb.S rfl) (hx:ev Γ x=some v:=by rfl) (hi:ev Γ ix=some (.int kd i):=by rfl) (cN:i=((j:Nat):Int):=by rfl) (hj:j<xs.length:=by omega) (k:K (bP v j) w:=by exact ⟨rfl,rfl⟩):az P Γ w (.indexAddr t x ix) ty K:=Tf j hT ht hs hx hi C cN hj k
theorem fI {kd:IntKind} {i:Int} (j:Nat) (C:bH T w v xs) (ht:P.underlying t=some (.slice e):=by exact Tb.U rfl) (hs:cp P e=some (s,bb,z):=by exact Tb.S rfl) (hT:T.sz=s:=by rfl) (hx:ev Γ x=some v:=by rfl) (hi:ev Γ ix=some (.int kd i):=by rfl) (cN:i=((j:Nat):Int):=by rfl) (hj:j<xs.length:=by omega) (k:K (bP v (j*s)) w:=by exact ⟨rfl,rfl⟩):az P Γ w (.indexAddr t x ix) ty K:=Te j hT ht hs hx hi C cN hj k
theorem cn {j:Nat} {u:Value} (C:bH T w v xs) (hT:T.sz=1:=by rfl) (ht:P.underlying t=some de:=by exact Tb.U rfl) (hd:lV de=false:=by rfl) (hx:ev Γ x=some (bP v j):=by rfl) (hj:j<xs.length:=by omega) (D:Df T df:=by infer_instance) (he:T.enc (xs.getD j df)=[u]:=by rfl) (k:K u w:=by exact ⟨rfl,rfl⟩):az P Γ w (.load t x) ty K:=Tc j df hT ht hd hx C hj he k
theorem zt {j:Nat} (C:bH T w v xs) (ht:P.underlying t=some de:=by exact Tb.U rfl) (hd:lV de=true:=by rfl) (hs:cp P t=some (s,bb,z):=by exact Tb.S rfl) (hT:T.sz=s:=by rfl) (hx:ev Γ x=some (bP v (j*s)):=by rfl) (hj:j<xs.length:=by omega) (D:Df T df:=by infer_instance) (he:Cp (T.enc (xs.getD j df)) us:=by repeat' first|exact Cp.z|apply Cp.s) (k:K (.agg us.toArray) w:=by exact ⟨rfl,rfl⟩):az P Γ w (.load t x) ty K:=S9 j df hT ht hd hs hx C hj he.eq k
theorem iL {f sf:Nat} {q:Bool} {j:Nat} (C:bH T w v xs) (hT:T.sz=s:=by rfl) (hf:nz P t f=some (off,sf,q):=by exact Tb.F rfl) (hs:Nat.beq sf 0=false:=by rfl) (hx:ev Γ x=some (bP v (j*s)):=by rfl) (hj:j<xs.length:=by omega) (D:Df T df:=by infer_instance) (k:K (bP v (j*s+off)) w:=by exact ⟨rfl,rfl⟩):az P Γ w (.fieldAddr t x f) ty K:=aaN j df hT hf hs hx C hj k
theorem nU {j:Nat} {u:Value} (C:bH T w v xs) (hT:T.sz=s:=by rfl) (ht:P.underlying t=some de:=by exact Tb.U rfl) (hd:lV de=false:=by rfl) (hx:ev Γ x=some (bP v (j*s+off)):=by rfl) (cX:Nat.blt off s=true:=by rfl) (hj:j<xs.length:=by omega) (D:Df T df:=by infer_instance) (he:(T.enc (xs.getD j df))[off]?=some u:=by rfl) (k:K u w:=by exact ⟨rfl,rfl⟩):az P Γ w (.load t x) ty K:=Ta j df hT cX ht hd hx C hj he k
theorem NN {j:Nat} (C:bH T w v xs) (hT:T.sz=s:=by rfl) (hx:ev Γ x=some (bP v (j*s)):=by rfl) (hj:j<xs.length:=by omega) (D:Df T df:=by infer_instance) (k:K (bP v (j*s)) w:=by exact ⟨rfl,rfl⟩):az P Γ w (.nilCheck x) ty K:=W1 j df hT hx C hj k
theorem tH {j:Nat} {u:Value} (x':α) (H:aA w0 L w G) (i:Nat) (hx:ev Γ x=some (bP v j):=by rfl) (o:On i [aj T v e xs] [aj T v e (xs.set j x')] G G':=by repeat' first|exact On.z|apply On.s) (hT:T.sz=1:=by rfl) (hs:cp P t=some (1,bb,z):=by exact Tb.S rfl) (hy:ev Γ y=some u:=by rfl) (he:T.enc x'=[u]:=by rfl) (hj:j<xs.length:=by omega) (k:∀w',aA w0 L w' G'→K undef w'):az P Γ w (.store t x y) ty K:=
  OD j x' hT hs hx hy he (H.PF i o.get) hj fun w' u=>k w' (o.set▸H.on i o.get u)
theorem sNZ {j:Nat} (x':α) (H:aA w0 L w G) (i:Nat) (hs:cp P t=some (s,bb,z):=by exact Tb.S rfl) (hx:ev Γ x=some (bP v (j*s)):=by rfl) (o:On i [aj T v e xs] [aj T v e (xs.set j x')] G G':=by repeat' first|exact On.z|apply On.s) (hT:T.sz=s:=by rfl) {X:Array Value} (hy:ev Γ y=some (.agg X):=by rfl) (hu:Cp X.toList us:=by repeat' first|exact Cp.z|apply Cp.s) (he:T.enc x'=us:=by rfl) (hj:j<xs.length:=by omega) (k:∀w',aA w0 L w' G'→K undef w'):az P Γ w (.store t x y) ty K:=
  OB j x' hT hs hx (by rw [hy,←hu.eq]) he (H.PF i o.get) hj fun w' u=>k w' (o.set▸H.on i o.get u)
theorem DE {j:Nat} {u:Value} (x':α) (H:aA w0 L w G) (i:Nat) (hx:ev Γ x=some (bP v (j*s+off)):=by rfl) (o:On i [aj T v e xs] [aj T v e (xs.set j x')] G G':=by repeat' first|exact On.z|apply On.s) (hT:T.sz=s:=by rfl) (hs:cp P t=some (1,bb,z):=by exact Tb.S rfl) (cX:Nat.blt off s=true:=by rfl) (hy:ev Γ y=some u:=by rfl) (h1:u.oneCell'=true:=by rfl) (D:Df T df:=by infer_instance) (he:T.enc x'=(T.enc (xs.getD j df)).set off u:=by rfl) (hj:j<xs.length:=by omega) (k:∀w',aA w0 L w' G'→K undef w'):az P Γ w (.store t x y) ty K:=
  OC j df x' hT cX hs hx hy h1 he (H.PF i o.get) hj fun w' u=>k w' (o.set▸H.on i o.get u)
theorem db {z:Value} {len:Nat} {ps:Array (Nat×Operand)} {vs:List (Nat×Value)} (T:Ty α) (xs:List α) (H:aA w0 L w G) (ht:P.underlying t=some (.slice e):=by exact Tb.U rfl) (hs:cp P e=some (s,bb,some z):=by exact Tb.S rfl) (hT:T.sz=s:=by rfl) (hp:Ng Γ ps.toList=some vs:=by rfl) (hlen:xs.length=len:=by rfl) (ur:Nat.ble (len*s) 16777216=true:=by rfl) (CH:Nat.beq (len*s) 0=false:=by rfl)
    (hf:Instr.fill (fun i=>some (i*s,s)) ((Array.range (len*s)).map (z.cells[· %z.cells.size]!)) vs=some (T.all xs).toArray:=by kernel_rfl) (hcs:(T.all xs).toArray.size=len*s:=by kernel_rfl) (o:Ap G [[aj T (.slice (some ⟨w.heap.size,0,none⟩) xs.length xs.length) e xs]] G':=by repeat' first|exact Ap.z|apply Ap.s) (k:∀w',aA w0 L w' G'→K (.slice (some ⟨w.heap.size,0,none⟩) xs.length xs.length) w'):az P Γ w (.buildSlice t len ps) ty K:=
  BV hT ht hs hp hlen ur CH hf hcs rfl fun w' u=>k w' (o.eq▸H.im u)
theorem fT {z:Value} {q:Operand} {df':aO} (H:aA w0 L w G) (i:Nat) (C:bH T w (.slice A ys.length cx) ys) (o:On i [aj T (.slice df' xs.length c) e xs] [] G G':=by repeat' first|exact On.z|apply On.s) (ht:P.underlying t=some (.slice e):=by exact Tb.U rfl) (hs:cp P e=some (s,bb,some z):=by exact Tb.S rfl) (hT:T.sz=s:=by rfl) (SH:z.cells.size=s:=by rfl) (Wd:ev Γ q=some (.slice df' xs.length c):=by rfl) (hx:ev Γ x=some (.slice A ys.length cx):=by rfl)
    (hb:(xs.length+ys.length)*bb≤140737488355328:=by simp;omega) (gk:xs.length+ys.length≤9223372036854775807:=by simp;omega) (k:∀a' c' w',aA w0 L w' (G.set i [aj T (.slice a' (xs++ys).length c') e (xs++ys)])→K (.slice a' (xs++ys).length c') w'):az P Γ w (.call { callee:= .builtin .append,args:= #[q,x],argTypes:= #[t,t] }) ty K:=
  D9 hT ht hs SH Wd hx (H.PF i o.get) C hb gk fun a' c' w' u=>k a' c' w' (H.on i o.get u)
end
theorem aA.VK {w w':World} {L A:List Chunk} {G:List (List Chunk)} (h:aA w L w' G) (i:Nat) (hi:G[i]?=some A):aA w L w' (G.set i [many A]):=
  h.on i hi ⟨gM.2 (by rw [List.append_nil];exact h.cB i hi),di.refl _ _,fun g hg=> .inl (by rw [fF,List.append_nil] at hg;exact hg)⟩
theorem yD:∀(l:List Rn) (s:Bs),(∀r,r∈l→r.hi<256)→∀x,x<256→(l.foldl (fun s q=>sw s (bM q.lo q.hi)) s).has x=(s.has x||l.any fun r=>decide (r.lo≤x∧x≤r.hi))
  | [],s,_,x,hx=>by simp
  | r::l,s,hl,x,hx=>by
    rw [List.foldl_cons,yD l _ (fun q hq=>hl q (List.mem_cons_of_mem _ hq)) x hx,KY _ _ hx,yE (hl r List.mem_cons_self) hx,List.any_cons,Bool.or_assoc]
theorem Bo {x:Nat} (hx:x<256):(cA ⟨#[97,108,110,117,109]⟩).has x=ed ⟨#[97,108,110,117,109]⟩ x:=by
  show (nJ [⟨48,57⟩,⟨65,90⟩,⟨97,122⟩]).has x=(ki x||kq x||iZ x)
  unfold nJ
  rw [yD _ _ (by simp) x hx,eo]
  simp only [ki,kq,iZ,List.any_cons,List.any_nil,Bool.or_false,Bool.false_or]
  rw [Bool.or_comm]
theorem UF {c:Nat} (h:¬(c=110∨c=116∨c=114∨c=100∨c=68∨c=115∨c=83∨c=119∨c=87)) (x:Nat):kr c x=(decide (x=c)&& !ed ⟨#[97,108,110,117,109]⟩ x):=by
  unfold kr
  rw [if_neg oz,if_neg oz,if_neg oz,if_neg oz,if_neg oz,if_neg oz,if_neg oz,if_neg oz,if_neg oz]
theorem UE {c:Nat} (h:c=110∨c=116∨c=114∨c=100∨c=68∨c=115∨c=83∨c=119∨c=87):(dm c).1=dc (kr c)∧(dm c).2=true∧dc (kr c)≠Bs.zero:=by
  rcases h with rfl|rfl|rfl|rfl|rfl|rfl|rfl|rfl|rfl<;>exact of_decide_eq_true (by decide+kernel)
theorem YL {c:Nat} (hc:c<256):(dm c).1=dc (kr c)∧(dm c).2=decide (dc (kr c)≠Bs.zero):=by
  by_cases h:c=110∨c=116∨c=114∨c=100∨c=68∨c=115∨c=83∨c=119∨c=87
  · obtain ⟨h1,h2,h3⟩:=UE h
    exact ⟨h1,by rw [h2,decide_eq_true h3]⟩
  · have hp:=UF h
    by_cases ha:(cA ⟨#[97,108,110,117,109]⟩).has c=true
    · have e:dm c=(Bs.zero,false):=by
        unfold dm;rw [if_neg oz,if_neg oz,if_neg oz,if_neg oz,if_neg oz,if_pos ha]
      have e2:Bs.zero=dc (kr c):=pE fun x hx=>by
        rw [eo,hp x]
        by_cases ex:x=c
        · subst ex;rw [←Bo hx,ha];simp
        · simp [ex]
      rw [e,←e2];simp
    · have e:dm c=(gU [c],true):=by
        unfold dm;rw [if_neg oz,if_neg oz,if_neg oz,if_neg oz,if_neg oz,if_neg ha]
      have hl:∀d,d∈[c]→d<256:=by intro d hd;simp only [List.mem_singleton] at hd;omega
      have e2:gU [c]=dc (kr c):=pE fun x hx=>by
        rw [nZ hl hx,hp x]
        by_cases ex:x=c
        · subst ex;rw [Bo hx] at ha;simp [ha]
        · simp [ex]
      have e3:gU [c]≠Bs.zero:=fun e4=>by
        have h5:=nZ hl hc
        rw [e4,eo] at h5;simp at h5
      rw [e,←e2];exact ⟨rfl,(decide_eq_true e3).symm⟩
def WO (l:List Nd) (i:Nat) (T:Tr) (j:Nat) (wt:Int):Prop:=j≤i∧1≤wt∧wt≤(i:Int)+1∧∃F:List Tr,JQ F∧(F.length:Int)=wt∧l.take (j+1)=l.take (i+1-T.flat.length)++bG F
theorem WO.start {l:List Nd} {i:Nat} {T:Tr} (h:Sub l i T):WO l i T i 1:=
  ⟨Nat.le_refl _,by omega,by omega,[T],by intro x hx;simp at hx;subst hx;exact h.1,rfl,by rw [cz];exact h.eq⟩
theorem nA (F:List Tr):F.length≤(bG F).length:=by
  induction F with
  | nil=>simp [bG]
  | cons T F ih=>
    have:=dK T
    have e:(bG (T::F)).length=T.flat.length+(bG F).length:=by simp [bG]
    rw [e,List.length_cons];omega
theorem WO.step {l:List Nd} {i j:Nat} {T:Tr} {wt:Int} (hT:Sub l i T) (h:WO l i T j wt):0≤cj (l.getD j cb).kind∧((wt+(cj (l.getD j cb).kind-1)=0∧(j:Int)=(i:Int)+1-T.flat.length)∨(wt+(cj (l.getD j cb).kind-1)≠0∧1≤j∧WO l i T (j-1) (wt+(cj (l.getD j cb).kind-1)))):=by
  obtain ⟨hj,hw,_,F,hF,hl,e⟩:=h
  have hi:=hT.2.1
  have hle:=hT.le
  rcases List.eq_nil_or_concat F with rfl|⟨F0,S,rfl⟩
  · simp at hl;omega
  · rw [List.concat_eq_append] at*
    have hS:S.wk:=hF S (by simp)
    have hlen:i+1-T.flat.length≤j:=by
      have h9:=congrArg List.length e
      have:=nA (F0++[S])
      simp only [List.length_append,List.length_take,List.length_singleton] at h9 this;omega
    rw [bV,cz,ep S,←List.append_assoc,←List.append_assoc,jH l oz] at e
    have h1:=List.append_inj' e rfl
    have hr:l.getD j cb=S.root:=by simpa using h1.2
    have hk:=eu hS
    rw [hr,hk]
    have e2:l.take j=l.take (i+1-T.flat.length)++bG (F0++S.kids):=by rw [bV,←List.append_assoc];exact h1.1
    have KP:(F0.length:Int)+1=wt:=by simpa using hl
    have KO:((F0++S.kids).length:Int)=wt+((S.kids.length:Int)-1):=by rw [List.length_append];omega
    have h9:=congrArg List.length e2
    have h8:=nA (F0++S.kids)
    simp only [List.length_append,List.length_take] at h9 h8
    refine ⟨by omega,?_⟩
    by_cases h0:wt+((S.kids.length:Int)-1)=0
    · have hn:F0++S.kids=[]:=List.length_eq_zero_iff.1 (by rw [List.length_append];omega)
      rw [hn] at h9
      simp only [Br,List.length_nil] at h9
      exact .inl ⟨h0,by omega⟩
    · refine .inr ⟨h0,by omega,by omega,by omega,by omega,F0++S.kids,fun x hx=>?_,KO,by rw [show j-1+1=j by omega];exact e2⟩
      rcases List.mem_append.1 hx with h7|h7
      · exact hF x (by simp [h7])
      · exact j6 hS x h7
def aY:Tr→Nat→List Int
  | .leaf _,_=>[]
  | .rep _ _,i=>[(i:Int)-1]
  | .bin _ _ b,i=>[(i:Int)-1-b.flat.length,(i:Int)-1]
def ZH:Tr→Nat→Nat→Int
  | _,i,0=>(i:Int)-1
  | .leaf _,i,_=>(i:Int)-1
  | .rep _ a,i,_=>(i:Int)-1-a.flat.length
  | .bin _ _ b,i,1=>(i:Int)-1-b.flat.length
  | .bin _ a b,i,_=>(i:Int)-1-b.flat.length-a.flat.length
def GJ (T:Tr) (i:Nat) (out:List Int) (at_ n:Int):Prop:=∃m,m≤T.kids.length∧n=(T.kids.length:Int)-m∧at_=ZH T i m∧out=(aY T i).drop (T.kids.length-m)
theorem nf (T:Tr) (i:Nat):(aY T i).length=T.kids.length:=by cases T<;>rfl
theorem GJ.start (T:Tr) (i:Nat):GJ T i [] ((i:Int)-1) (T.kids.length:Int):=⟨0,Nat.zero_le _,by omega,by cases T<;>rfl,by rw [Nat.sub_zero,←nf T i,List.drop_length]⟩
theorem GJ.step {l:List Nd} {T:Tr} {i:Nat} {out:List Int} {at_ n:Int} (hT:Sub l i T) (h:GJ T i out at_ n) (hn:0<n):0≤at_∧at_<(i:Int)∧∃S,Sub l at_.toNat S∧GJ T i (at_::out) (at_+1-S.flat.length-1) (n-1):=by
  obtain ⟨m,hm,e1,e2,e3⟩:=h
  cases T with
  | leaf nd=>simp [Tr.kids] at hm e1;omega
  | rep nd a=>
    simp only [Tr.kids,List.length_singleton] at*
    obtain rfl:m=0:=by omega
    have hs:=hT.rep
    simp only [ZH] at e2
    subst e2
    refine ⟨by omega,by omega,a,by rw [show ((i:Int)-1).toNat=i-1 by omega];exact hs.2.1,1,by simp [Tr.kids],by simp [Tr.kids];omega,by simp only [ZH];omega,by rw [e3];simp [aY,Tr.kids]⟩
  | bin nd a b=>
    simp only [Tr.kids,List.length_cons,List.length_nil] at*
    have hs:=hT.bin
    rcases (by omega:m=0∨m=1) with rfl|rfl
    · simp only [ZH] at e2
      subst e2
      refine ⟨by omega,by omega,b,by rw [show ((i:Int)-1).toNat=i-1 by omega];exact hs.2.1,1,by simp [Tr.kids],by simp [Tr.kids];omega,by simp only [ZH];omega,by rw [e3];simp [aY,Tr.kids]⟩
    · simp only [ZH] at e2
      subst e2
      refine ⟨by omega,by omega,a,by rw [show ((i:Int)-1-b.flat.length).toNat=i-1-b.flat.length by omega];exact hs.2.2.2,2,by simp [Tr.kids],by simp [Tr.kids];omega,by simp only [ZH];omega,by rw [e3];simp [aY,Tr.kids]⟩
theorem GJ.fin {T:Tr} {i:Nat} {out:List Int} {at_ n:Int} (h:GJ T i out at_ n) (hn:n≤0):out=aY T i:=by
  obtain ⟨m,hm,e1,e2,e3⟩:=h
  rw [e3,show T.kids.length-m=0 by omega,List.drop_zero]
theorem GJ.len {T:Tr} {i:Nat} {out:List Int} {at_ n:Int} (h:GJ T i out at_ n):(out.length:Int)+n=(T.kids.length:Int)∧T.kids.length≤2:=by
  obtain ⟨m,hm,e1,e2,e3⟩:=h
  rw [e3,List.length_drop,nf]
  refine ⟨by omega,?_⟩
  cases T<;>simp [Tr.kids]
def NI (T:Tr) (i:Nat) (out:List Int) (at_ n:Int):Prop:=GJ T i out.reverse at_ n
theorem NI.start (T:Tr) (i:Nat):NI T i [] ((i:Int)-1) (T.kids.length:Int):=GJ.start T i
theorem NI.step {l:List Nd} {T:Tr} {i:Nat} {out:List Int} {at_ n:Int} (hT:Sub l i T) (h:NI T i out at_ n) (hn:0<n):0≤at_∧at_<(i:Int)∧∃S,Sub l at_.toNat S∧NI T i (out++[at_]) (at_+1-S.flat.length-1) (n-1):=by
  obtain ⟨h1,h2,S,h3,h4⟩:=GJ.step hT h hn
  exact ⟨h1,h2,S,h3,by unfold NI;rw [List.reverse_append];exact h4⟩
theorem NI.fin {T:Tr} {i:Nat} {out:List Int} {at_ n:Int} (h:NI T i out at_ n) (hn:n≤0):out.reverse=aY T i:=GJ.fin h hn
theorem NI.len {T:Tr} {i:Nat} {out:List Int} {at_ n:Int} (h:NI T i out at_ n):(out.length:Int)+n=(T.kids.length:Int)∧T.kids.length≤2:=by
  have:=GJ.len h;rw [List.length_reverse] at this;exact this
theorem Vx.k8 {l:List Nd} {k i:Nat} {out:List Int} (h:Vx l k out) (hi:i<k): -1≤out.getD i 0∧out.getD i 0≤(i:Int):=by
  rcases h.2 i hi with ⟨T,hT,e⟩|⟨_,e⟩
  · have:=dK T;have:=hT.le;omega
  · omega
def Gu (n:Nd):Prop:=¬n.kind=1∧¬n.set=Bs.zero
def Gt (n:Nd):Prop:=¬n.kind=7∧(¬n.lo=0∨¬n.hi=0)
def zb (n:Nd):Prop:=n.kind=7∧(n.lo<0∨n.lo>32∨¬n.hi= -1∧(n.hi<n.lo∨n.hi>32))
instance (n:Nd):Decidable (Gu n):=by unfold Gu;exact inferInstance
instance (n:Nd):Decidable (Gt n):=by unfold Gt;exact inferInstance
instance (n:Nd):Decidable (zb n):=by unfold zb;exact inferInstance
theorem PK (n:Nd):c8 n=true↔¬Gu n∧¬Gt n∧¬zb n:=by
  unfold c8 Gu Gt zb
  rw [decide_eq_true_eq]
  have e1:(n.kind=1∨n.set=Bs.zero)↔¬(¬n.kind=1∧¬n.set=Bs.zero):=by
    by_cases a:n.kind=1<;>by_cases b:n.set=Bs.zero<;>simp [a,b]
  rw [e1]
  apply and_congr_right
  intro _
  by_cases h7:n.kind=7
  · rw [if_pos h7];omega
  · rw [if_neg h7];omega
theorem oy.len {l:List Nd} (h:oy l):0<l.length∧l.length≤512:=by
  obtain ⟨h1,_,T,_,rfl⟩:=h;exact ⟨dK T,h1⟩
theorem xH {l:List Nd} (h:l.length=0∨l.length>512):cO l=false:=by
  rw [Bool.eq_false_iff];intro h9;have:=(fi.1 h9).len;omega
theorem tT {l:List Nd} {out:List Int} (h:ZY l out) {k:Nat} (hk:k<l.length) (hb:out.getD k 0<0∨¬c8 (l.getD k cb)=true):cO l=false:=by
  rw [Bool.eq_false_iff];intro h9
  have h8:=(A1 h).1 (fi.1 h9)
  have h7:=h8.2.2.1 k hk
  rcases hb with h6|h6
  · omega
  · exact h6 h7.2
theorem Hs {l:List Nd} {out:List Int} (h:ZY l out) (h0:0<l.length) (h1:l.length≤512) (ha:∀i,i<l.length→0≤out.getD i 0∧c8 (l.getD i cb)=true):cO l=decide (out.getD (l.length-1) 0=0):=by
  rw [Bool.eq_iff_iff,fi,A1 h,decide_eq_true_eq]
  exact ⟨fun h9=>h9.2.2.2,fun h9=>⟨h0,h1,ha,h9⟩⟩
def cf (o:List Bool):Nat:=(o.filter (!·)).length
theorem C6 (o:List Bool):∀(i:Nat),i<o.length→o.getD i false=false→cf (o.set i true)+1=cf o:=by
  induction o with
  | nil=>intro i h;simp at h
  | cons x xs ih=>
    intro i hi hx
    cases i with
    | zero=>simp at hx;subst hx;simp [cf]
    | succ i=>
      have:=ih i (by simpa using hi) (by simpa using hx)
      cases x<;>simp [cf] at* <;>omega
theorem mB {o:List Bool} {i:Nat} (h:i<o.length):(o.set i true).getD i false=true:=by simp [List.getD_eq_getElem?_getD,h]
theorem fJ {o:List Bool} {i j:Nat} (h:o.getD j false=true):(o.set i true).getD j false=true:=by
  by_cases e:i=j
  · subst e
    have:i<o.length:=by
      rcases Nat.lt_or_ge i o.length with h1|h1
      · exact h1
      · simp [List.getD_eq_getElem?_getD,List.getElem?_eq_none h1] at h
    exact mB this
  · simp [List.getD_eq_getElem?_getD,List.getElem?_set_ne e] at h ⊢;exact h
theorem pA {o:List Bool} {i j:Nat} (h:(o.set i true).getD j false=true):i=j∨o.getD j false=true:=by
  by_cases e:i=j
  · exact .inl e
  · simp [List.getD_eq_getElem?_getD,List.getElem?_set_ne e] at h ⊢;exact .inr h
structure uQ (nx:Int→List Int) (n:Nat) (t0:List Int) (o:List Bool):Prop where
  len:o.length=n
  init:∀t,t∈t0→o.getD t.toNat false=true
  jZ:∀s:Nat,o.getD s false=true→∀t,t∈nx s→o.getD t.toNat false=true
  min:∀Q:Int→Prop,(∀t,t∈t0→Q t)→(∀s,Q s→∀t,t∈nx s→Q t)→∀s:Nat,o.getD s false=true→Q s
structure Dw (n:Nat) (t0:List Int) (o:List Bool) (k:Nat):Prop where
  len:o.length=n
  init:∀i,i<k→o.getD (t0.getD i 0).toNat false=true
  only:∀s:Nat,o.getD s false=true→(s:Int)∈t0
structure qM (nx:Int→List Int) (n:Nat) (t0:List Int) (o:List Bool) (todo:List Int) (s:Int) (k:Nat):Prop where
  len:o.length=n
  init:∀t,t∈t0→o.getD t.toNat false=true
  CE:∀t,t∈todo→(0≤t∧t<(n:Int))∧o.getD t.toNat false=true
  jZ:∀r:Nat,o.getD r false=true→(r:Int)∈todo∨(r:Int)=s∨∀t,t∈nx r→o.getD t.toNat false=true
  now:0≤s∧s<(n:Int)∧o.getD s.toNat false=true
  part:∀i,i<k→o.getD ((nx s).getD i 0).toNat false=true
  min:∀Q:Int→Prop,(∀t,t∈t0→Q t)→(∀s,Q s→∀t,t∈nx s→Q t)→∀s:Nat,o.getD s false=true→Q s
structure wg (nx:Int→List Int) (n:Nat) (t0:List Int) (o:List Bool) (todo:List Int):Prop where
  len:o.length=n
  init:∀t,t∈t0→o.getD t.toNat false=true
  CE:∀t,t∈todo→(0≤t∧t<(n:Int))∧o.getD t.toNat false=true
  jZ:∀r:Nat,o.getD r false=true→(r:Int)∈todo∨∀t,t∈nx r→o.getD t.toNat false=true
  min:∀Q:Int→Prop,(∀t,t∈t0→Q t)→(∀s,Q s→∀t,t∈nx s→Q t)→∀s:Nat,o.getD s false=true→Q s
section
variable {nx:Int→List Int} {n:Nat} {t0 todo:List Int} {o:List Bool} {s:Int} {k:Nat}
theorem Dw.start (n:Nat) (t0:List Int):Dw n t0 (List.replicate n false) 0:=⟨by simp,fun i h=>by omega,fun s h=>by
  simp only [List.getD_eq_getElem?_getD,List.getElem?_replicate] at h
  split at h<;>simp at h⟩
theorem Dw.step (h:Dw n t0 o k) (hk:k<t0.length) (hr:∀t,t∈t0→0≤t∧t<(n:Int)):Dw n t0 (o.set (t0.getD k 0).toNat true) (k+1):=by
  have hm:t0.getD k 0∈t0:=by simp [List.getD_eq_getElem?_getD,hk]
  have hb:=hr _ hm
  refine ⟨by simp [h.len],jw (fun i hi=>fJ (h.init i hi)) (mB (by rw [h.len];omega)),fun r T8=>?_⟩
  rcases pA T8 with e|e
  · rw [←e,Int.toNat_of_nonneg hb.1];exact hm
  · exact h.only r e
theorem Dw.done (h:Dw n t0 o k) (hk:¬k<t0.length) (hr:∀t,t∈t0→0≤t∧t<(n:Int)):wg nx n t0 o t0:=by
  have hi:∀t,t∈t0→o.getD t.toNat false=true:=fun t ht=>by
    obtain ⟨i,hi,rfl⟩:=List.mem_iff_getElem.1 ht
    have:=h.init i oz
    simpa [List.getD_eq_getElem?_getD,hi] using this
  exact ⟨h.len,hi,fun t ht=>⟨hr t ht,hi t ht⟩,fun r T8=> .inl (h.only r T8),fun Q hQ _ s hs=>hQ _ (h.only s hs)⟩
theorem wg.pop (h:wg nx n t0 o todo) (ht:0<todo.length):qM nx n t0 o (todo.take (todo.length-1)) (todo.getD (todo.length-1) 0) 0:=by
  have hl:todo.length-1<todo.length:=by omega
  have hm:todo.getD (todo.length-1) 0∈todo:=by simp [List.getD_eq_getElem?_getD,hl]
  obtain ⟨⟨b1,b2⟩,b3⟩:=h.CE _ hm
  refine ⟨h.len,h.init,fun t ht=>h.CE t (List.mem_of_mem_take ht),fun r hr=>?_,⟨b1,b2,b3⟩,fun i hi=>by omega,h.min⟩
  rcases h.jZ r hr with c|c
  · obtain ⟨i,hi,e⟩:=List.mem_iff_getElem.1 c
    by_cases hh:i=todo.length-1
    · right;left;subst hh;rw [←e];simp [List.getD_eq_getElem?_getD,hl]
    · left;rw [←e];exact List.mem_iff_getElem.2 ⟨i,by simp;omega,by simp⟩
  · exact .inr (.inr c)
theorem qM.vk (h:qM nx n t0 o todo s k) (hk:k<(nx s).length) (hm:o.getD ((nx s).getD k 0).toNat false=true):qM nx n t0 o todo s (k+1):=
  ⟨h.len,h.init,h.CE,h.jZ,h.now,jw h.part hm,h.min⟩
theorem qM.new (h:qM nx n t0 o todo s k) (hk:k<(nx s).length) (hb:0≤(nx s).getD k 0∧(nx s).getD k 0<(n:Int)):qM nx n t0 (o.set ((nx s).getD k 0).toNat true) (todo++[(nx s).getD k 0]) s (k+1):=by
  have DH:(nx s).getD k 0∈nx s:=by simp [List.getD_eq_getElem?_getD,hk]
  have VZ:=mB (o:=o) (i:=((nx s).getD k 0).toNat) (by rw [h.len];omega)
  refine ⟨by simp [h.len],fun t ht=>fJ (h.init t ht),fun t ht=>?_,fun r hr=>?_,⟨h.now.1,h.now.2.1,fJ h.now.2.2⟩,jw (fun i hi=>fJ (h.part i hi)) VZ,fun Q q1 q2 r hr=>?_⟩
  · rcases List.mem_append.1 ht with c|c
    · exact ⟨(h.CE t c).1,fJ (h.CE t c).2⟩
    · simp only [List.mem_singleton] at c;subst c;exact ⟨hb,VZ⟩
  · rcases pA hr with e|e
    · left;rw [←e,Int.toNat_of_nonneg hb.1];simp
    · rcases h.jZ r e with c|c|c
      · left;exact List.mem_append_left _ c
      · exact .inr (.inl c)
      · exact .inr (.inr fun t ht=>fJ (c t ht))
  · rcases pA hr with e|e
    · rw [←e,Int.toNat_of_nonneg hb.1]
      have:=h.min Q q1 q2 s.toNat h.now.2.2
      rw [Int.toNat_of_nonneg h.now.1] at this
      exact q2 s this _ DH
    · exact h.min Q q1 q2 r e
theorem qM.done (h:qM nx n t0 o todo s k) (hk:¬k<(nx s).length):wg nx n t0 o todo:=by
  refine ⟨h.len,h.init,h.CE,fun r hr=>?_,h.min⟩
  rcases h.jZ r hr with c|c|c
  · exact .inl c
  · right;intro t ht
    rw [c] at ht
    obtain ⟨i,hi,rfl⟩:=List.mem_iff_getElem.1 ht
    have:=h.part i oz
    simpa [List.getD_eq_getElem?_getD,hi] using this
  · exact .inr c
theorem wg.fin (h:wg nx n t0 o todo) (ht:¬0<todo.length):uQ nx n t0 o:=
  ⟨h.len,h.init,fun r hr=>(h.jZ r hr).resolve_left (by
    have h0:todo=[]:=List.length_eq_zero_iff.1 oz
    rw [h0];simp),h.min⟩
end
theorem RG (o:List Bool):cf o≤o.length:=List.length_filter_le _ _
def aeB (P:Program) (f:FuncId) (fc:List Value) (nx:Int→List Int) (n:Nat) (S:List Nat) (w:World):Prop:=
  ∀w':World,di S w w'→∀x:Int,0≤x→x<(n:Int)→Calls P f (#[.int .i64 x]++fc.toArray) w' (bj fun v lZ=>∃a c,v= .slice a (nx x).length c∧aE w' [] lZ [aj (aw .i64) (.slice a (nx x).length c) 3 (nx x)])
def o4 (xs:List Int):List Int:=xs.mergeSort fun x y=>decide (x≤y)
theorem LP (xs:List Int) (x:Int):x∈o4 xs↔x∈xs:=by simp [o4]
theorem k5 (xs:List Int):(o4 xs).length=xs.length:=by simp [o4]
theorem yV (xs:List Int):(Lib.compact xs).length≤xs.length:=by
  simp only [Lib.compact,Lib.compactUpTo,List.length_map]
  exact Nat.le_trans (List.length_filter_le _ _) (by simp)
theorem Gd (l:List Int) (x:Int):x∈Lib.compact l↔x∈l:=by
  have iP:∀i (h:i<l.length),l.toArray[i]! =l[i]:=fun i h=>by simp [h]
  simp only [Lib.compact,Lib.compactUpTo,List.mem_map,List.mem_filter,List.mem_range]
  constructor
  · rintro ⟨i,⟨hi,_⟩,rfl⟩
    rw [iP i hi];exact List.getElem_mem hi
  · intro hx
    obtain ⟨i,hi,rfl⟩:=List.mem_iff_getElem.1 hx
    induction i with
    | zero=>exact ⟨0,⟨hi,by simp [Lib.keeps]⟩,iP 0 hi⟩
    | succ i ih=>
      by_cases hk:Lib.keeps l.toArray (i+1)=true
      · exact ⟨i+1,⟨hi,hk⟩,iP (i+1) hi⟩
      · have wL:i<l.length:=by omega
        have he:l[i+1]=l[i]:=by
          simp only [Lib.keeps,decide_eq_true_eq,not_or,ne_eq,Classical.not_not] at hk
          have h2:=hk.2
          rw [Nat.add_sub_cancel,iP (i+1) hi,iP i wL] at h2
          exact h2
        rw [he]
        exact ih wL (List.getElem_mem wL)
def bD (d:ar):List Int:=Lib.compact (o4 d.cls)
theorem rX (d:ar) (x:Int):x∈bD d↔x∈d.cls:=by rw [bD,Gd,LP]
theorem wu {d:ar} (h:aN d=true) {x:Int} (hx:x∈bD d):0≤x∧x<d.width:=by
  obtain ⟨i,hi,rfl⟩:=List.mem_iff_getElem.1 ((rX d x).1 hx)
  have:=jD (bo.1 h).2.1 i hi
  simpa [List.getD_eq_getElem?_getD,hi] using this
def Kr (d:ar) (s:Int):List Int:=(bD d).map fun c=>d.next.getD (s*d.width+c).toNat 0
theorem oY (d:ar):(bD d).length≤d.cls.length:=by have:=yV (o4 d.cls);rw [k5] at this;exact this
theorem PT {d:ar} {s:Int} {k:Nat} (h:k<(bD d).length):((bD d).take k).map (fun c=>d.next.getD (s*d.width+c).toNat 0)++[d.next.getD (s*d.width+(bD d).getD k 0).toNat 0]=((bD d).take (k+1)).map (fun c=>d.next.getD (s*d.width+c).toNat 0):=by
  rw [List.take_add_one,List.getElem?_eq_getElem h,List.map_append];simp [List.getD_eq_getElem?_getD,List.getElem?_eq_getElem h]
theorem HY {d:ar} (h:aN d=true) {s t:Int} (h0:0≤s) (h1:s<(d.acc.length:Int)) (ht:t∈Kr d s):0≤t∧t<(d.acc.length:Int):=by
  obtain ⟨c,hc,rfl⟩:=List.mem_map.1 ht
  have hb:=wu h hc
  have Wc:=dS h h0 h1 hb.1 hb.2
  exact jD (bo.1 h).2.2 _ oz
theorem TJ (d:ar) (s:Int):(Kr d s).length≤d.cls.length:=by have:=oY d;simp [Kr];omega
theorem gN {l:List Lv} {i:Nat} (h:i<l.length) (t:Lv):(l.set i t).getD i fV=t:=by
  rw [List.getD_eq_getElem?_getD,List.getElem?_set_self h];rfl
theorem Bf {p:PS} (h:p.fH=true) (hl:0<p.st.length):aZ p=if ((p.st.set (p.st.length-1) ⟨(p.st.getD (p.st.length-1) fV).parts+1,(p.st.getD (p.st.length-1) fV).aV⟩).getD (p.st.length-1) fV).parts>1
    then ⟨p.out++[nd 5],p.st.set (p.st.length-1) ⟨(p.st.getD (p.st.length-1) fV).parts+1,(p.st.getD (p.st.length-1) fV).aV⟩,false⟩ else ⟨p.out,p.st.set (p.st.length-1) ⟨(p.st.getD (p.st.length-1) fV).parts+1,(p.st.getD (p.st.length-1) fV).aV⟩,false⟩:=by
  rw [gN oz]
  unfold aZ ka eK
  rw [if_pos h]
  by_cases h2:(p.st.getD (p.st.length-1) fV).parts+1>1
  · rw [if_pos h2,if_pos h2]
  · rw [if_neg h2,if_neg h2]
def N1 (q:PS) (L:Nat):List Lv:=(q.st.set L ⟨0,(q.st.getD L fV).aV⟩).set L ⟨((q.st.set L ⟨0,(q.st.getD L fV).aV⟩).getD L fV).parts,((q.st.set L ⟨0,(q.st.getD L fV).aV⟩).getD L fV).aV+1⟩
theorem oh {p:PS} (hl:0<p.st.length):bW p=⟨if ((N1 (aZ p) (p.st.length-1)).getD (p.st.length-1) fV).aV>1 then (if ((aZ p).st.getD (p.st.length-1) fV).parts=0 then (aZ p).out++[nd 2] else (aZ p).out)++[nd 6] else (if ((aZ p).st.getD (p.st.length-1) fV).parts=0 then (aZ p).out++[nd 2] else (aZ p).out),
    N1 (aZ p) (p.st.length-1),(aZ p).fH⟩:=by
  have hj:=dE p
  have hL:p.st.length-1<(aZ p).st.length:=by omega
  have e1:((aZ p).st.set (p.st.length-1) ⟨0,((aZ p).st.getD (p.st.length-1) fV).aV⟩).getD (p.st.length-1) fV=⟨0,((aZ p).st.getD (p.st.length-1) fV).aV⟩:=gN hL _
  have e2:N1 (aZ p) (p.st.length-1)=(aZ p).st.set (p.st.length-1) ⟨0,((aZ p).st.getD (p.st.length-1) fV).aV+1⟩:=by unfold N1;rw [e1,List.set_set]
  rw [e2,gN hL,Bg]
  unfold bW xZ lN ka eK
  rw [hj]
theorem iO (p:PS):(aZ p).out.length≤p.out.length+1:=by
  unfold aZ;split
  · simp only [];split<;>simp
  · omega
def j4 (p:PS) (K:Int):Prop:=0≤K∧∀i,0≤(p.st.getD i fV).parts∧(p.st.getD i fV).parts≤K∧0≤(p.st.getD i fV).aV∧(p.st.getD i fV).aV≤K
theorem B1 {l:List Lv} {K:Int} {i:Nat} {t:Lv} (h:∀j,0≤(l.getD j fV).parts∧(l.getD j fV).parts≤K∧0≤(l.getD j fV).aV∧(l.getD j fV).aV≤K) (ht:0≤t.parts∧t.parts≤K+1∧0≤t.aV∧t.aV≤K+1):∀j,0≤((l.set i t).getD j fV).parts∧((l.set i t).getD j fV).parts≤K+1∧0≤((l.set i t).getD j fV).aV∧((l.set i t).getD j fV).aV≤K+1:=by
  intro j
  by_cases e:i=j
  · subst e
    by_cases hl:i<l.length
    · rw [gN hl];exact ht
    · rw [List.set_eq_of_length_le oz];have:=h i;omega
  · have:(l.set i t).getD j fV=l.getD j fV:=by simp [List.getD_eq_getElem?_getD,List.getElem?_set_ne e]
    rw [this];have:=h j;omega
theorem j4.join {p:PS} {K:Int} (h:j4 p K):j4 (aZ p) (K+1):=by
  refine ⟨by have:=h.1;omega,?_⟩
  unfold aZ
  split
  · have h9:=h.2 (p.st.length-1)
    exact B1 h.2 (by unfold ka;simp only [];omega)
  · intro i;have:=h.2 i;omega
theorem j4.choice {p:PS} {K:Int} (h:j4 p K):j4 (bW p) (K+1):=by
  refine ⟨by have:=h.1;omega,?_⟩
  unfold bW aZ
  split
  · unfold eK ka
    simp only [List.length_set,List.set_set]
    have h9:=h.2 (p.st.length-1)
    refine B1 h.2 ?_
    by_cases hl:p.st.length-1<p.st.length
    · rw [gN hl];simp only [];have:=h.1;omega
    · rw [List.set_eq_of_length_le oz];simp only [];have:=h.1;omega
  · have h9:=h.2 (p.st.length-1)
    exact B1 h.2 (by unfold ka;simp only [];have:=h.1;omega)
theorem j4.tok {p:PS} {K:Int} (h:j4 p K) (t:Tk):j4 (gb p t) (K+1):=by
  have hj:=h.join
  have hc:=h.choice
  have hm:j4 p (K+1):=⟨by have:=h.1;omega,fun i=>by have:=h.2 i;omega⟩
  unfold gb
  split
  · exact hm
  split
  · exact hj
  split
  · exact hj
  split
  · exact hj
  split
  · exact hc
  split
  · exact hm
  split
  · refine ⟨hj.1,fun i=>?_⟩
    unfold lB
    simp only []
    rcases Nat.lt_trichotomy i (aZ p).st.length with h1|h1|h1
    · rw [List.getD_eq_getElem?_getD,List.getElem?_append_left h1,←List.getD_eq_getElem?_getD];exact hj.2 i
    · subst h1
      rw [List.getD_eq_getElem?_getD,List.getElem?_append_right (Nat.le_refl _),Nat.sub_self]
      have:=hj.1;simp [fV];omega
    · rw [List.getD_eq_getElem?_getD,List.getElem?_eq_none gv]
      have:=hj.1;simp [fV];omega
  · refine ⟨hc.1,fun i=>?_⟩
    unfold jY
    simp only []
    rw [List.getD_eq_getElem?_getD,List.getElem?_take]
    split
    · rw [←List.getD_eq_getElem?_getD];exact hc.2 i
    · have:=hc.1;simp [fV];omega
theorem PG (p:PS):lB p=⟨(aZ p).out,(aZ p).st++[fV],(aZ p).fH⟩:=by unfold lB;rw [Bg]
def x4 (p:PS):Int:=if p.st.length>20 then 4 else 0
def x3 (p:PS):PS:=if p.st.length>20 then p else lB p
def rI (p:PS):Int:=if p.st.length=1 then 3 else 0
def rH (p:PS):PS:=if p.st.length=1 then p else jY p
def Ez (p:PS) (t:Tk):Int:=if dw t then 9 else if p.fH=true then 0 else 3
def Ex (p:PS) (t:Tk):PS:=if dw t then p else if p.fH=true then ⟨p.out++[⟨7,Bs.zero,t.lo,t.hi⟩],p.st,p.fH⟩ else p
theorem Gg (p:PS):(bW p).out.length≤p.out.length+3:=by
  have:=iO p
  unfold bW xZ lN
  simp only []
  split<;>split<;>simp<;>omega
theorem S6 (p:PS) (t:Tk):(gb p t).out.length≤p.out.length+3∧(gb p t).st.length≤p.st.length+1:=by
  have h1:=iO p;have h2:=dE p;have h3:=Gg p;have h4:=iU p
  unfold gb
  split
  · omega
  split
  · simp [fA];omega
  split
  · simp [fA];omega
  split
  · simp [fA];omega
  split
  · omega
  split
  · simp
  split
  · simp [lB];omega
  · simp [jY];omega
theorem xq (l:List Tk):∀k,k≤l.length→(dU l k).out.length≤3*k∧(dU l k).st.length≤k+1
  | 0,_=>by simp [lx,Pw]
  | k+1,h=>by
    have ih:=xq l k oz
    rw [jf oz]
    have:=S6 (dU l k) (l.getD k dz)
    omega
theorem Et {p:PS} {K M:Int} (h:j4 p K) (hm:K≤M):j4 p M:=⟨by have:=h.1;omega,fun i=>by have:=h.2 i;omega⟩
theorem BX (l:List Tk):∀k,k≤l.length→j4 (dU l k) (k:Int)
  | 0,_=>⟨by omega,fun i=>by
      rcases i with _|i
      · simp [lx,Pw,fV]
      · simp [lx,Pw,fV]⟩
  | k+1,h=>by
    rw [jf oz]
    exact (BX l k oz).tok _
theorem mS {l:List Tk} (hg:dX l) {i:Nat} (hi:i<l.length) (h:(l.getD i dz).kind=3∨(l.getD i dz).kind=2):(dU l (i+1)).fH=false:=by
  rw [jf hi,D3 (hg.1 i hi),decide_eq_false_iff_not];omega
theorem MC {l:List Tk} (hg:dX l) {i:Nat} (hi:i<l.length) (h2:¬(l.getD i dz).kind=2) (h4:¬(l.getD i dz).kind=4) (h5:(l.getD i dz).kind=5→(dU l i).fH=false):(l.getD i dz).kind=1∨(l.getD i dz).kind=3∨(l.getD i dz).kind=6∨(l.getD i dz).kind=7:=by
  have hk:=hg.kind hi
  have h9:¬(l.getD i dz).kind=5:=fun h=>by
    have he:=hg.1 i hi
    have hr:=h5 h
    by_cases hb:dw (l.getD i dz)
    · rw [F5 h hb] at he;omega
    · rw [Bx h hb (by rw [hr];decide)] at he;omega
  omega
theorem S0 {l:List Tk} {i e op:Int} (h:WrR l i e op) (he:e=0) (ho:¬op>0):dX l:=by
  rcases h with ⟨_,_,h1,h2⟩|⟨k,_,_,_,h1,h2⟩
  · have:=jg l l.length
    exact ⟨h1,by omega⟩
  · omega
theorem WR {l:List Tk} {i e op:Int} (h:WrR l i e op) (he:¬e=0):∃k,k<l.length∧i=(k:Int)∧∀en,GI l en [] (l.getD k dz).pos e:=by
  rcases h with ⟨_,h0,_⟩|⟨k,hk,hi,h1,h2,h3⟩
  · omega
  · exact ⟨k,hk,hi,fun en=> .inl ⟨k,hk,h1,h2,rfl,rfl,h3⟩⟩
theorem SZ {l:List Tk} {i e op:Int} (h:WrR l i e op) (he:e=0) (ho:op>0) (en:Int):GI l en [] en 3:=by
  rcases h with ⟨_,_,h1,h2⟩|⟨k,_,_,_,h1,h2⟩
  · exact .inr ⟨h1,.inl ⟨by omega,rfl,rfl,rfl⟩⟩
  · omega
theorem TI {l:List Tk} (hg:dX l) {x:List Nd} (h:(bW (dU l l.length)).out=x) (hx:x.length>512) (en:Int):GI l en [] 0 4:=
  .inr ⟨hg.1,.inr ⟨hg.2,.inl ⟨by rw [h];exact hx,rfl,rfl,rfl⟩⟩⟩
theorem aby {l:List Tk} (hg:dX l) {x:List Nd} (h:(bW (dU l l.length)).out=x) (hx:¬x.length>512) (en:Int):GI l en x 0 0:=
  .inr ⟨hg.1,.inr ⟨hg.2,.inr ⟨by rw [h];omega,h.symm,rfl,rfl⟩⟩⟩
theorem qH (p:PS) {t:Tk} (h:t.kind=1):ei p t=0∧gb p t=fA p ⟨1,t.set,0,0⟩:=by
  have e:ei p t=0:=by unfold ei;rw [if_pos oz]
  exact ⟨e,by unfold gb;rw [if_neg oz,if_pos h]⟩
theorem qC (p:PS) {t:Tk} (h:t.kind=6):ei p t=0∧gb p t=fA p (nd 3):=by
  have e:ei p t=0:=by unfold ei;rw [if_pos oz]
  exact ⟨e,by unfold gb;rw [if_neg oz,if_neg oz,if_pos h]⟩
theorem qB (p:PS) {t:Tk} (h:t.kind=7):ei p t=0∧gb p t=fA p (nd 4):=by
  have e:ei p t=0:=by unfold ei;rw [if_pos oz]
  exact ⟨e,by unfold gb;rw [if_neg oz,if_neg oz,if_neg oz,if_pos h]⟩
theorem qG (p:PS) {t:Tk} (h:t.kind=2):ei p t=0∧gb p t=bW p:=by
  have e:ei p t=0:=by unfold ei;rw [if_pos oz]
  exact ⟨e,by unfold gb;rw [if_neg oz,if_neg oz,if_neg oz,if_neg oz,if_pos h]⟩
theorem qD (p:PS) {t:Tk} (h:t.kind=5):ei p t=Ez p t∧gb p t=Ex p t:=by
  have e:ei p t=Ez p t:=by unfold ei Ez;rw [if_neg oz,if_pos h]
  refine ⟨e,?_⟩
  unfold gb
  rw [e]
  unfold Ez Ex
  by_cases hb:dw t
  · rw [if_pos hb,if_pos hb,if_pos dF]
  · rw [if_neg hb,if_neg hb]
    by_cases hr:p.fH=true
    · rw [if_pos hr,if_pos hr,if_neg dF,if_neg oz,if_neg oz,if_neg oz,if_neg oz,if_pos h]
    · rw [if_neg hr,if_neg hr,if_pos dF]
theorem qF (p:PS) {t:Tk} (h:t.kind=3):ei p t=x4 p∧gb p t=x3 p:=by
  have e:ei p t=x4 p:=by unfold ei x4;rw [if_neg oz,if_neg oz,if_pos h]
  refine ⟨e,?_⟩
  unfold gb
  rw [e]
  unfold x4 x3
  by_cases hb:p.st.length>20
  · rw [if_pos hb,if_pos hb,if_pos dF]
  · rw [if_neg hb,if_neg hb,if_neg dF,if_neg oz,if_neg oz,if_neg oz,if_neg oz,if_neg oz,if_pos h]
theorem qE (p:PS) {t:Tk} (h:t.kind=4):ei p t=rI p∧gb p t=rH p:=by
  have e:ei p t=rI p:=by unfold ei rI;rw [if_neg oz,if_neg oz,if_neg oz,if_pos h]
  refine ⟨e,?_⟩
  unfold gb
  rw [e]
  unfold rI rH
  by_cases hb:p.st.length=1
  · rw [if_pos hb,if_pos hb,if_pos dF]
  · rw [if_neg hb,if_neg hb,if_neg dF,if_neg oz,if_neg oz,if_neg oz,if_neg oz,if_neg oz,if_neg oz]
theorem qA (p:PS) {t:Tk} (h:¬t.kind=1∧¬t.kind=6∧¬t.kind=7∧¬t.kind=2∧¬t.kind=5∧¬t.kind=3∧¬t.kind=4):ei p t=9∧gb p t=p:=by
  have e:ei p t=9:=by unfold ei;rw [if_neg oz,if_neg oz,if_neg oz,if_neg oz]
  exact ⟨e,by unfold gb;rw [if_pos oz]⟩
def pk:List ByteArray:=oD.map (·.1)
def Xp (name:ByteArray) (l:List ByteArray):Bool:=l.any fun x=>decide (x=name)
theorem yi {name:ByteArray} {l:List ByteArray} :Xp name l=true↔name∈l:=by
  unfold Xp;rw [List.any_eq_true]
  constructor
  · rintro ⟨x,hx,h⟩;rw [←of_decide_eq_true h];exact hx
  · intro h;exact ⟨name,h,decide_eq_true rfl⟩
theorem Ft (name:ByteArray):isOk name=Xp name pk:=by
  have e:pk=[⟨#[97,108,110,117,109]⟩,⟨#[97,108,112,104,97]⟩,⟨#[98,108,97,110,107]⟩,⟨#[99,110,116,114,108]⟩,⟨#[100,105,103,105,116]⟩,⟨#[103,114,97,112,104]⟩,⟨#[108,111,119,101,114]⟩,⟨#[112,114,105,110,116]⟩,⟨#[112,117,110,99,116]⟩,⟨#[115,112,97,99,101]⟩,⟨#[117,112,112,101,114]⟩,⟨#[120,100,105,103,105,116]⟩]:=rfl
  unfold isOk
  rw [e,Bool.eq_iff_iff,yi,decide_eq_true_eq]
  simp only [List.mem_cons,List.not_mem_nil,or_false]
  constructor
  · rintro (h|h|h|h|h|h|h|h|h|h|h|h)<;>simp [h]
  · rintro (h|h|h|h|h|h|h|h|h|h|h|h)<;>simp [h]
theorem Ja {name:ByteArray} (h:name∉pk):cA name=Bs.zero∧fY name=false:=by
  have hf:oD.find? (fun r=>decide (r.1=name))=none:=by
    rw [List.find?_eq_none]
    intro x hx hd
    exact h (List.mem_map.2 ⟨x,hx,by simpa using hd⟩)
  unfold cA fY
  rw [hf];exact ⟨rfl,rfl⟩
theorem Jc:∀j:Fin 12,cA (pk.getD j.val .empty)=dc (ed (pk.getD j.val .empty))∧fY (pk.getD j.val .empty)=true:=by decide+kernel
theorem Qs {name:ByteArray} (h:isOk name=false) (x:Nat):ed name x=false:=by
  unfold isOk at h
  have h2:=of_decide_eq_false h
  simp only [not_or] at h2
  obtain ⟨h1,h2,h3,h4,h5,h6,h7,h8,h9,h10,h11,h12⟩:=h2
  unfold ed
  rw [if_neg h1,if_neg h2,if_neg h3,if_neg h4,if_neg h5,if_neg h6,if_neg h7,if_neg h8,if_neg h9,if_neg h10,if_neg h11,if_neg h12]
theorem RF (name:ByteArray):cA name=dc (ed name)∧fY name=isOk name:=by
  by_cases h:name∈pk
  · obtain ⟨j,hj,e⟩:=List.mem_iff_getElem.1 h
    have e2:pk.getD j .empty=name:=by rw [List.getD_eq_getElem?_getD,List.getElem?_eq_getElem hj];exact e
    obtain ⟨h1,h2⟩:=Jc ⟨j,hj⟩
    simp only [e2] at h1 h2
    exact ⟨h1,by rw [h2,Ft,yi.2 h]⟩
  · obtain ⟨h1,h2⟩:=Ja h
    have h3:isOk name=false:=by rw [Ft];exact Bool.eq_false_iff.2 fun e=>h (yi.1 e)
    refine ⟨by rw [h1];exact pE fun x _=>by rw [eo,Qs h3],by rw [h2,h3]⟩
theorem qz {p:Prop} (h:p:=by assumption):p:=h
def eg (c:Nat):Bool:=decide (48≤c∧c≤57∨97≤c|||32∧c|||32≤102)
def dG (c:Nat):Nat:=if 48≤c∧c≤57 then c-48 else if 97≤c|||32∧c|||32≤102 then (c|||32)-97+10 else 0
def ee (c:Nat):Int:=if 48≤c∧c≤57 then (c:Int)-48 else if 97≤c∧c≤102 then (c:Int)-97+10 else if 65≤c∧c≤70 then (c:Int)-65+10 else-1
theorem Uk:∀c:Fin 256,eg c.val=decide (0≤ee c.val)∧(0≤ee c.val→(dG c.val:Int)=ee c.val)∧dG c.val<16∧ee c.val<16∧ -1≤ee c.val:=by decide+kernel
theorem rA {c:Nat} (h:c<256):eg c=decide (0≤ee c)∧(0≤ee c→(dG c:Int)=ee c)∧dG c<16∧ee c<16∧ -1≤ee c:=Uk ⟨c,h⟩
def uh (s:Bs):Int:=if (bK s).length=1 then (((bK s).getD 0 0:Nat):Int) else-1
def jO (s:Bs) (nm:Bool):Int:=if nm=true then-1 else uh s
theorem Nx {c:Nat} (h:c<256):bK (gU [c])=[c]:=by
  have h1:∀b,b∈bK (gU [c])↔b=c:=fun b=>by
    rw [fj]
    constructor
    · rintro ⟨h2,h3⟩;rw [nZ (by intro x hx;simp at hx;omega) h2] at h3;simpa using h3
    · rintro rfl;exact ⟨h,by rw [nZ (by intro x hx;simp at hx;omega) h];simp⟩
  have rQ:(bK (gU [c])).Nodup:=List.Nodup.sublist List.filter_sublist List.nodup_range
  match hl:bK (gU [c]),h1,rQ with
  | [],h1,_=>exact absurd ((h1 c).2 rfl) (by simp)
  | [x],h1,_=>rw [(h1 x).1 (by simp)]
  | x::y::l,h1,rQ=>
    have a:=(h1 x).1 (by simp);have b:=(h1 y).1 (by simp)
    rw [a,b] at rQ;simp at rQ
theorem Kn {c:Nat} (h:c<256):uh (gU [c])=c:=by unfold uh;rw [Nx h];simp
theorem PH (s:Bs): -1≤uh s∧uh s<256:=by
  unfold uh
  split
  · rename_i h
    have h1:(bK s).getD 0 0∈bK s:=by
      rw [List.getD_eq_getElem?_getD,List.getElem?_eq_getElem oz];exact List.getElem_mem _
    have:=(fj.1 h1).1;omega
  · omega
theorem range_one {c:Nat} (h:c<256):bM c c=gU [c]:=by
  unfold bM gU
  rw [show c+1-c=1 by omega];rfl
def fP (p:ByteArray) (a:Nat):Option (Bs×Nat):=
  if a+1≥p.size then none
  else if bn p (a+1)=120 then
    (if a+3≥p.size then none else if eg (bn p (a+2))=true∧eg (bn p (a+3))=true then some (gU [dG (bn p (a+2))*16+dG (bn p (a+3))],a+4) else none)
  else if (dm (bn p (a+1))).2=true then some ((dm (bn p (a+1))).1,a+2) else none
def jC (p:ByteArray) (j i:Nat):Bool:=decide (j≤i∧i+1<p.size∧bn p i=58∧bn p (i+1)=93)
def cutAt (p:ByteArray) (j:Nat):Option Nat:=(List.range p.size).find? (jC p j)
theorem yT {p:ByteArray} {j i:Nat} (h:jC p j i=true) (hl:∀k,j≤k→k<i→jC p j k=false):cutAt p j=some i:=by
  have hi:i<p.size:=by unfold jC at h;rw [decide_eq_true_eq] at h;omega
  unfold cutAt
  rw [List.find?_range_eq_some]
  refine ⟨h,by simpa using hi,fun k hk=>?_⟩
  by_cases e:j≤k
  · simp [hl k e hk]
  · have:jC p j k=false:=by unfold jC;rw [decide_eq_false_iff_not];omega
    simp [this]
theorem yU {p:ByteArray} {j:Nat} (hl:∀k,j≤k→k+1<p.size→jC p j k=false):cutAt p j=none:=by
  unfold cutAt
  rw [List.find?_eq_none]
  intro k hk
  by_cases e:j≤k∧k+1<p.size
  · rw [hl k e.1 e.2];decide
  · have:jC p j k=false:=by unfold jC;rw [decide_eq_false_iff_not];omega
    rw [this];decide
theorem BB {p:ByteArray} {j i:Nat} (h:cutAt p j=some i):j≤i∧i+1<p.size:=by
  have:=List.find?_some h
  unfold jC at this;rw [decide_eq_true_eq] at this;exact ⟨this.1,this.2.1⟩
def named (p:ByteArray) (a:Nat):Bool:=decide (a+1<p.size∧bn p a=91∧bn p (a+1)=58)
def eA (p:ByteArray) (a:Nat):Option (Bs×Nat×Bool):=
  if bn p a=92 then (fP p a).map fun x=>(x.1,x.2,false)
  else if named p a=true then
    (match cutAt p (a+2) with
    | none=>none
    | some i=>if fY (p.extract (a+2) i)=true then some (cA (p.extract (a+2) i),i+2,true) else none)
  else some (gU [bn p a],a+1,false)
theorem fC {p:ByteArray} {a n:Nat} {s:Bs} (h:fP p a=some (s,n)):a<n∧n≤p.size:=by
  unfold fP at h
  split at h
  · cases h
  · split at h
    · split at h
      · cases h
      · split at h
        · simp only [Option.some.injEq,Prod.mk.injEq] at h;omega
        · cases h
    · split at h
      · simp only [Option.some.injEq,Prod.mk.injEq] at h;omega
      · cases h
theorem AT {p:ByteArray} {a n:Nat} {s:Bs} {nm:Bool} (ha:a<p.size) (h:eA p a=some (s,n,nm)):a<n∧n≤p.size:=by
  unfold eA at h
  split at h
  · rcases he:fP p a with _|⟨s2,n2⟩
    · rw [he] at h;cases h
    · rw [he] at h;simp only [Option.map_some,Option.some.injEq,Prod.mk.injEq] at h
      have:=fC he;omega
  · split at h
    · split at h
      · cases h
      · rename_i i hc
        split at h
        · simp only [Option.some.injEq,Prod.mk.injEq] at h
          have:=BB hc;omega
        · cases h
    · simp only [Option.some.injEq,Prod.mk.injEq] at h;omega
def wC (p:ByteArray) (s:Bs) (n:Nat) (nm:Bool):Bool:=decide (0≤jO s nm∧n+1<p.size∧bn p n=45∧bn p (n+1)≠93)
def kb (p:ByteArray) (a:Nat):Option (Bs×Nat):=
  match eA p a with
  | none=>none
  | some (s,n,nm)=>
    if wC p s n nm=true then
      (match eA p (n+1) with
      | none=>none
      | some (s2,n2,NM)=>if jO s2 NM<jO s nm then none else some (bM (jO s nm).toNat (jO s2 NM).toNat,n2))
    else some (s,n)
theorem ug {p:ByteArray} {a n:Nat} {s:Bs} (ha:a<p.size) (h:kb p a=some (s,n)):a<n∧n≤p.size:=by
  unfold kb at h
  rcases h1:eA p a with _|⟨s1,n1,nm1⟩
  · rw [h1] at h;cases h
  · rw [h1] at h;simp only at h
    have r1:=AT ha h1
    split at h
    · rename_i hr
      unfold wC at hr;rw [decide_eq_true_eq] at hr
      rcases h2:eA p (n1+1) with _|⟨s2,n2,NM⟩
      · rw [h2] at h;cases h
      · rw [h2] at h;simp only at h
        have r2:=AT oz h2
        split at h
        · cases h
        · simp only [Option.some.injEq,Prod.mk.injEq] at h;omega
    · simp only [Option.some.injEq,Prod.mk.injEq] at h;omega
inductive wj (p:ByteArray):Nat→Bs→Option (Bs×Nat)→Prop
  | stop {i:Nat} {s:Bs} :i<p.size→bn p i=93→wj p i s (some (s,i+1))
  | over {i:Nat} {s:Bs} :¬i<p.size→wj p i s none
  | bad {i:Nat} {s:Bs} :i<p.size→bn p i≠93→kb p i=none→wj p i s none
  | step {i n:Nat} {s x:Bs} {r:Option (Bs×Nat)} :i<p.size→bn p i≠93→kb p i=some (x,n)→wj p n (sw s x) r→wj p i s r
theorem wj.uniq {p:ByteArray} {i:Nat} {s:Bs} {r r':Option (Bs×Nat)} (h:wj p i s r) (h':wj p i s r'):r=r':=by
  induction h generalizing r' with
  | stop h1 h2=>cases h' with
    | stop=>rfl
    | over h3=>exact absurd h1 h3
    | bad _ h3=>exact absurd h2 h3
    | step _ h3=>exact absurd h2 h3
  | over h1=>cases h' with
    | stop h3=>exact absurd h3 h1
    | over=>rfl
    | bad h3=>exact absurd h3 h1
    | step h3=>exact absurd h3 h1
  | bad h1 h2 h3=>cases h' with
    | stop _ h4=>exact absurd h4 h2
    | over h4=>exact absurd h1 h4
    | bad=>rfl
    | step _ _ h4=>rw [h3] at h4;cases h4
  | step h1 h2 h3 _ ih=>cases h' with
    | stop _ h4=>exact absurd h4 h2
    | over h4=>exact absurd h1 h4
    | bad _ _ h4=>rw [h3] at h4;cases h4
    | step _ _ h4 h5=>rw [h3] at h4;cases h4;exact ih h5
def oI (p:ByteArray) (a:Nat):Bool:=decide (a+1<p.size∧bn p (a+1)=94)
def fS (p:ByteArray) (a:Nat):Nat:=if oI p a=true then a+2 else a+1
def y7 (not:Bool) (s:Bs):Bs:=if not=true then gF s else s
def uV (p:ByteArray) (a:Nat) (r:Option (Bs×Nat)):Prop:=∃q,wj p (fS p a) Bs.zero q∧r=q.map fun x=>(y7 (oI p a) x.1,x.2)
theorem uV.uniq {p:ByteArray} {a:Nat} {r r':Option (Bs×Nat)} (h:uV p a r) (h':uV p a r'):r=r':=by
  obtain ⟨q,h1,rfl⟩:=h;obtain ⟨q',h2,rfl⟩:=h';rw [h1.uniq h2]
theorem wj.k8 {p:ByteArray} {i:Nat} {s:Bs} {r:Option (Bs×Nat)} (h:wj p i s r):∀x n,r=some (x,n)→i<n∧n≤p.size:=by
  induction h with
  | stop h1 h2=>intro x n e;simp only [Option.some.injEq,Prod.mk.injEq] at e;omega
  | over=>intro x n e;cases e
  | bad=>intro x n e;cases e
  | step h1 h2 h3 _ ih=>intro x n e;have:=ug h1 h3;have:=ih x n e;omega
theorem uV.k8 {p:ByteArray} {a n:Nat} {x:Bs} (h:uV p a (some (x,n))):a<n∧n≤p.size:=by
  obtain ⟨q,h1,e⟩:=h
  rcases q with _|⟨y,k⟩
  · cases e
  · simp only [Option.map_some,Option.some.injEq,Prod.mk.injEq] at e
    have:=h1.k8 y k rfl
    unfold fS at this;split at this<;>omega
def wS (p:ByteArray) (j:Nat):Bool:=decide (j<p.size∧48≤bn p j∧bn p j≤57)
def dZ (p:ByteArray) (a:Nat):Nat→Nat
  | 0=>0
  | k+1=>10*dZ p a k+(bn p (a+k)-48)
def kD (p:ByteArray) (a:Nat):Nat:=if wS p a=true then if wS p (a+1)=true then if wS p (a+2)=true then 3 else 2 else 1 else 0
theorem Be (p:ByteArray) (a:Nat):kD p a≤3:=by unfold kD;split<;>(try split)<;>(try split)<;>omega
theorem uo {p:ByteArray} {a k:Nat} (h:k<kD p a):wS p (a+k)=true:=by
  unfold kD at h
  split at h
  · rename_i h1
    split at h
    · rename_i h2
      split at h
      · rename_i h3
        rcases (by omega:k=0∨k=1∨k=2) with rfl|rfl|rfl
        all_goals first|exact h1|exact h2|exact h3
      · rcases (by omega:k=0∨k=1) with rfl|rfl
        all_goals first|exact h1|exact h2
    · obtain rfl:k=0:=by omega
      exact h1
  · omega
theorem XD {p:ByteArray} {a k:Nat} (hk:k≤kD p a) (h:k=3∨wS p (a+k)=false):k=kD p a:=by
  rcases Nat.lt_or_ge k (kD p a) with h1|h1
  · have h2:=uo h1
    have:=Be p a
    rcases h with h|h
    · omega
    · rw [h2] at h;cases h
  · omega
theorem T2 {p:ByteArray} {a k:Nat} (hk:k≤kD p a) (h3:k<3) (h:wS p (a+k)=true):k+1≤kD p a:=by
  rcases Nat.lt_or_ge k (kD p a) with h1|h1
  · omega
  · exfalso
    have e:k=kD p a:=by omega
    unfold kD at e
    split at e
    · split at e
      · split at e
        · omega
        · rename_i h4;subst e;exact h4 h
      · rename_i h4;subst e;exact h4 h
    · rename_i h4;subst e;exact h4 h
theorem JR (p:ByteArray) (a:Nat):∀k,(∀j,j<k→wS p (a+j)=true)→dZ p a k<10^k
  | 0,_=>by simp [dZ]
  | k+1,h=>by
    have ih:=JR p a k (fun j hj=>h j oz)
    have hd:=h k oz
    unfold wS at hd;rw [decide_eq_true_eq] at hd
    simp only [dZ];rw [Nat.pow_succ];omega
def cD (p:ByteArray) (a:Nat):Bool:=decide (0<kD p a∧dZ p a (kD p a)≤32∧(bn p a≠48∨kD p a=1))
theorem mX (p:ByteArray) (a:Nat):cD p a=decide (¬(kD p a=0∨kD p a=3∨dZ p a (kD p a)>32∨kD p a=2∧bn p a=48)):=by
  unfold cD
  rw [decide_eq_decide]
  have h3:=Be p a
  have key:kD p a=3→bn p a≠48→dZ p a (kD p a)>32:=fun h h48=>by
    have hd:=uo (p:=p) (a:=a) (k:=0) oz
    unfold wS at hd;rw [decide_eq_true_eq,Nat.add_zero] at hd
    rw [h];simp only [dZ,Nat.add_zero];omega
  constructor
  · rintro ⟨h1,h2,h4⟩ h9
    rcases h9 with h9|h9|h9|h9
    · omega
    · rcases h4 with h4|h4
      · have:=key h9 h4;omega
      · omega
    · omega
    · rcases h4 with h4|h4
      · exact h4 h9.2
      · omega
  · intro h9
    refine ⟨?_,?_,?_⟩
    · refine Classical.byContradiction fun h=>h9 (.inl oz)
    · refine Classical.byContradiction fun h=>h9 (.inr (.inr (.inl oz)))
    · refine Classical.byContradiction fun h=>?_
      have hk:kD p a≠0:=fun e=>h9 (.inl e)
      have Uh:kD p a≠3:=fun e=>h9 (.inr (.inl e))
      exact h9 (.inr (.inr (.inr ⟨by omega,by omega⟩)))
def kp (p:ByteArray) (a:Nat):Int:=if cD p a=true then ((dZ p a (kD p a):Nat):Int) else-1
def iF (p:ByteArray) (a:Nat):Option (Int×Int×Nat):=
  let i:=a+1+kD p (a+1)
  if¬cD p (a+1)=true∨i≥p.size then none
  else if bn p i=125 then some ((dZ p (a+1) (kD p (a+1)):Nat),(dZ p (a+1) (kD p (a+1)):Nat),i+1)
  else if bn p i≠44∨i+1≥p.size then none
  else if bn p (i+1)=125 then some ((dZ p (a+1) (kD p (a+1)):Nat),-1,i+2)
  else
    let k:=i+1+kD p (i+1)
    if kp p (i+1)<(dZ p (a+1) (kD p (a+1)):Nat)∨k≥p.size∨bn p k≠125 then none
    else some ((dZ p (a+1) (kD p (a+1)):Nat),kp p (i+1),k+1)
theorem fu {p:ByteArray} {a n:Nat} {lo hi:Int} (h:iF p a=some (lo,hi,n)):a<n∧n≤p.size:=by
  unfold iF at h
  simp only at h
  split at h
  · cases h
  · split at h
    · simp only [Option.some.injEq,Prod.mk.injEq] at h;omega
    · split at h
      · cases h
      · split at h
        · simp only [Option.some.injEq,Prod.mk.injEq] at h;omega
        · split at h
          · cases h
          · simp only [Option.some.injEq,Prod.mk.injEq] at h;omega
def kl (k:Int) (a:Nat) (s:Bs) (lo hi:Int):Tk:=⟨k,a,s,lo,hi⟩
def jG (p:ByteArray) (a:Nat):Option (Tk×Nat):=
  if bn p a=124 then some (kl 2 a Bs.zero 0 0,a+1)
  else if bn p a=40 then some (kl 3 a Bs.zero 0 0,a+1)
  else if bn p a=41 then some (kl 4 a Bs.zero 0 0,a+1)
  else if bn p a=94 then some (kl 6 a Bs.zero 0 0,a+1)
  else if bn p a=36 then some (kl 7 a Bs.zero 0 0,a+1)
  else if bn p a=42 then some (kl 5 a Bs.zero 0 (-1),a+1)
  else if bn p a=43 then some (kl 5 a Bs.zero 1 (-1),a+1)
  else if bn p a=63 then some (kl 5 a Bs.zero 0 1,a+1)
  else if bn p a=123 then (iF p a).map fun x=>(kl 5 a Bs.zero x.1 x.2.1,x.2.2)
  else if bn p a=46 then some (kl 1 a (gF (gU [10])) 0 0,a+1)
  else if bn p a=92 then (fP p a).map fun x=>(kl 1 a x.1 0 0,x.2)
  else some (kl 1 a (gU [bn p a]) 0 0,a+1)
def GF (p:ByteArray) (a:Nat) (r:Option (Tk×Nat)):Prop:=
  (bn p a=91∧∃q,uV p a q∧r=q.map fun x=>(kl 1 a x.1 0 0,x.2))∨(bn p a≠91∧r=jG p a)
theorem GF.uniq {p:ByteArray} {a:Nat} {r r':Option (Tk×Nat)} (h:GF p a r) (h':GF p a r'):r=r':=by
  rcases h with ⟨h1,q,h2,rfl⟩|⟨h1,rfl⟩<;>rcases h' with ⟨wP,q',wO,rfl⟩|⟨wP,rfl⟩
  · rw [h2.uniq wO]
  · exact absurd h1 wP
  · exact absurd wP h1
  · rfl
theorem iB {α:Type} {p:ByteArray} {a n:Nat} {t:Tk} {q:Option (α×Nat)} {f:α→Tk} (hq:∀x k,q=some (x,k)→a<k∧k≤p.size) (h:some (t,n)=q.map fun x=>(f x.1,x.2)):a<n∧n≤p.size:=by
  rcases q with _|⟨x,k⟩
  · cases h
  · simp only [Option.map_some,Option.some.injEq,Prod.mk.injEq] at h
    have:=hq x k rfl;omega
theorem Ot {p:ByteArray} {a n:Nat} {t:Tk} (ha:a<p.size) (h:some (t,n)=jG p a):a<n∧n≤p.size:=by
  unfold jG at h
  have one:∀ {t2:Tk},some (t,n)=some (t2,a+1)→a<n∧n≤p.size:=fun h=>by simp only [Option.some.injEq,Prod.mk.injEq] at h;omega
  by_cases h124:bn p a=124
  · rw [if_pos h124] at h
    first
      | exact one h
      | exact iB (q:=fP p a) (f:=fun x=>kl 1 a x 0 0) (fun x k e=>fC e) h
      | (rcases hr:iF p a with _|⟨lo,hi,k⟩
         · rw [hr] at h;cases h
         · rw [hr] at h;simp only [Option.map_some,Option.some.injEq,Prod.mk.injEq] at h;have:=fu hr;omega)
  rw [if_neg h124] at h
  by_cases h40:bn p a=40
  · rw [if_pos h40] at h
    first
      | exact one h
      | exact iB (q:=fP p a) (f:=fun x=>kl 1 a x 0 0) (fun x k e=>fC e) h
      | (rcases hr:iF p a with _|⟨lo,hi,k⟩
         · rw [hr] at h;cases h
         · rw [hr] at h;simp only [Option.map_some,Option.some.injEq,Prod.mk.injEq] at h;have:=fu hr;omega)
  rw [if_neg h40] at h
  by_cases h41:bn p a=41
  · rw [if_pos h41] at h
    first
      | exact one h
      | exact iB (q:=fP p a) (f:=fun x=>kl 1 a x 0 0) (fun x k e=>fC e) h
      | (rcases hr:iF p a with _|⟨lo,hi,k⟩
         · rw [hr] at h;cases h
         · rw [hr] at h;simp only [Option.map_some,Option.some.injEq,Prod.mk.injEq] at h;have:=fu hr;omega)
  rw [if_neg h41] at h
  by_cases h94:bn p a=94
  · rw [if_pos h94] at h
    first
      | exact one h
      | exact iB (q:=fP p a) (f:=fun x=>kl 1 a x 0 0) (fun x k e=>fC e) h
      | (rcases hr:iF p a with _|⟨lo,hi,k⟩
         · rw [hr] at h;cases h
         · rw [hr] at h;simp only [Option.map_some,Option.some.injEq,Prod.mk.injEq] at h;have:=fu hr;omega)
  rw [if_neg h94] at h
  by_cases h36:bn p a=36
  · rw [if_pos h36] at h
    first
      | exact one h
      | exact iB (q:=fP p a) (f:=fun x=>kl 1 a x 0 0) (fun x k e=>fC e) h
      | (rcases hr:iF p a with _|⟨lo,hi,k⟩
         · rw [hr] at h;cases h
         · rw [hr] at h;simp only [Option.map_some,Option.some.injEq,Prod.mk.injEq] at h;have:=fu hr;omega)
  rw [if_neg h36] at h
  by_cases h42:bn p a=42
  · rw [if_pos h42] at h
    first
      | exact one h
      | exact iB (q:=fP p a) (f:=fun x=>kl 1 a x 0 0) (fun x k e=>fC e) h
      | (rcases hr:iF p a with _|⟨lo,hi,k⟩
         · rw [hr] at h;cases h
         · rw [hr] at h;simp only [Option.map_some,Option.some.injEq,Prod.mk.injEq] at h;have:=fu hr;omega)
  rw [if_neg h42] at h
  by_cases h43:bn p a=43
  · rw [if_pos h43] at h
    first
      | exact one h
      | exact iB (q:=fP p a) (f:=fun x=>kl 1 a x 0 0) (fun x k e=>fC e) h
      | (rcases hr:iF p a with _|⟨lo,hi,k⟩
         · rw [hr] at h;cases h
         · rw [hr] at h;simp only [Option.map_some,Option.some.injEq,Prod.mk.injEq] at h;have:=fu hr;omega)
  rw [if_neg h43] at h
  by_cases gk:bn p a=63
  · rw [if_pos gk] at h
    first
      | exact one h
      | exact iB (q:=fP p a) (f:=fun x=>kl 1 a x 0 0) (fun x k e=>fC e) h
      | (rcases hr:iF p a with _|⟨lo,hi,k⟩
         · rw [hr] at h;cases h
         · rw [hr] at h;simp only [Option.map_some,Option.some.injEq,Prod.mk.injEq] at h;have:=fu hr;omega)
  rw [if_neg gk] at h
  by_cases h123:bn p a=123
  · rw [if_pos h123] at h
    first
      | exact one h
      | exact iB (q:=fP p a) (f:=fun x=>kl 1 a x 0 0) (fun x k e=>fC e) h
      | (rcases hr:iF p a with _|⟨lo,hi,k⟩
         · rw [hr] at h;cases h
         · rw [hr] at h;simp only [Option.map_some,Option.some.injEq,Prod.mk.injEq] at h;have:=fu hr;omega)
  rw [if_neg h123] at h
  by_cases h46:bn p a=46
  · rw [if_pos h46] at h
    first
      | exact one h
      | exact iB (q:=fP p a) (f:=fun x=>kl 1 a x 0 0) (fun x k e=>fC e) h
      | (rcases hr:iF p a with _|⟨lo,hi,k⟩
         · rw [hr] at h;cases h
         · rw [hr] at h;simp only [Option.map_some,Option.some.injEq,Prod.mk.injEq] at h;have:=fu hr;omega)
  rw [if_neg h46] at h
  by_cases h92:bn p a=92
  · rw [if_pos h92] at h
    first
      | exact one h
      | exact iB (q:=fP p a) (f:=fun x=>kl 1 a x 0 0) (fun x k e=>fC e) h
      | (rcases hr:iF p a with _|⟨lo,hi,k⟩
         · rw [hr] at h;cases h
         · rw [hr] at h;simp only [Option.map_some,Option.some.injEq,Prod.mk.injEq] at h;have:=fu hr;omega)
  rw [if_neg h92] at h
  exact one h
theorem GF.k8 {p:ByteArray} {a n:Nat} {t:Tk} (ha:a<p.size) (h:GF p a (some (t,n))):a<n∧n≤p.size:=by
  rcases h with ⟨_,q,h1,h2⟩|⟨_,h1⟩
  · exact iB (q:=q) (f:=fun x=>kl 1 a x 0 0) (fun x k e=>by subst e;exact h1.k8) h2
  · exact Ot ha h1
structure NH where
  out:List Tk
  at_:Int
  er:Int
inductive j1 (p:ByteArray):Nat→List Tk→NH→Prop
  | done {a:Nat} {o:List Tk} :¬a<p.size→j1 p a o ⟨o,0,0⟩
  | bad {a:Nat} {o:List Tk} :a<p.size→GF p a none→j1 p a o ⟨[],a,3⟩
  | step {a n:Nat} {o:List Tk} {t:Tk} {r:NH} :a<p.size→GF p a (some (t,n))→j1 p n (o++[t]) r→j1 p a o r
theorem j1.uniq {p:ByteArray} {a:Nat} {o:List Tk} {r r':NH} (h:j1 p a o r) (h':j1 p a o r'):r=r':=by
  induction h generalizing r' with
  | done h1=>cases h' with
    | done=>rfl
    | bad h2=>exact absurd h2 h1
    | step h2=>exact absurd h2 h1
  | bad h1 h2=>cases h' with
    | done h3=>exact absurd h1 h3
    | bad=>rfl
    | step _ h3=>have:=h2.uniq h3;cases this
  | step h1 h2 _ ih=>cases h' with
    | done h3=>exact absurd h1 h3
    | bad _ h3=>have:=h2.uniq h3;cases this
    | step _ h3 h4=>have:=h2.uniq h3;cases this;exact ih h4
def eS (p:ByteArray) (r:NH):Prop:=if p.size>200 then r=⟨[],0,4⟩ else j1 p 0 [] r
theorem eS.uniq {p:ByteArray} {r r':NH} (h:eS p r) (h':eS p r'):r=r':=by
  unfold eS at h h'
  split at h
  · rw [if_pos qz] at h';rw [h,h']
  · rw [if_neg qz] at h';exact h.uniq h'
def Is {α:Type} (r:Option α) (ok:Bool) (P:α→Prop):Prop:=match r with|none=>ok=false|some x=>ok=true∧P x
theorem Is.no {α:Type} {r:Option α} {P:α→Prop} (h:r=none):Is r false P:=by subst h;exact rfl
theorem Is.yes {α:Type} {r:Option α} {P:α→Prop} {x:α} (h:r=some x) (hp:P x):Is r true P:=by subst h;exact ⟨rfl,hp⟩
theorem Is.f {α:Type} {r:Option α} {ok:Bool} {P:α→Prop} (h:Is r ok P) (e:ok≠true):r=none:=by
  cases r with
  | none=>rfl
  | some x=>exact absurd h.1 e
theorem Is.t {α:Type} {r:Option α} {ok:Bool} {P:α→Prop} (h:Is r ok P) (e:ok=true):∃x,r=some x∧P x:=by
  cases r with
  | none=>have h':ok=false:=h;rw [h'] at e;cases e
  | some x=>exact ⟨x,rfl,h.2⟩
theorem Is.mono {α:Type} {r:Option α} {ok:Bool} {P Q:α→Prop} (h:Is r ok P) (hq:∀x,P x→Q x):Is r ok Q:=by
  cases r with
  | none=>exact h
  | some x=>exact ⟨h.1,hq x h.2⟩
theorem Is.map {α β:Type} {r:Option α} {ok:Bool} {P:α→Prop} {Q:β→Prop} {f:α→β} (h:Is r ok P) (hq:∀x,P x→Q (f x)):Is (r.map f) ok Q:=by
  cases r with
  | none=>exact h
  | some x=>exact ⟨h.1,hq x h.2⟩
section
variable {P:Program} {Γ:Env} {w:World} {ty:TypeId} {K:Value→World→Prop} {xt yt:TypeId} {x y:Operand}
theorem lP {a b:Int} (hx:ev Γ x=some (.int .u8 a)) (hy:ev Γ y=some (.int .u8 b)) (h:0≤a-b) (h':a-b≤255) (k:K (.int .u8 (a-b)) w):az P Γ w (.binOp .sub xt x y yt) ty K:=
  mf (a-b) hx hy (by show some (IntKind.u8.wrap (a-b))=_;rw [wrap_u8' h h']) k
theorem aaU:∀m:Fin 16,IntKind.u8.wrap (((m.val:Nat):Int)*16)=((m.val*16:Nat):Int):=by decide+kernel
theorem UM {ky:IntKind} (m:Nat) (hm:m<16) (hx:ev Γ x=some (.int .u8 ((m:Nat):Int))) (hy:ev Γ y=some (.int ky 4)) (k:K (.int .u8 ((m*16:Nat):Int)) w):az P Γ w (.binOp .shl xt x y yt) ty K:=by
  refine Wq hx hy dF ?_
  have e1:IntKind.u8.wrap (((m:Nat):Int)*2^(min (4:Int).toNat IntKind.u8.bits))=((m*16:Nat):Int):=aaU ⟨m,hm⟩
  rw [e1];exact k
theorem afX:∀m n:Fin 16,IntKind.u8.wrap ((BitVec.ofInt 8 ((m.val*16:Nat):Int)|||BitVec.ofInt 8 ((n.val:Nat):Int)).toNat:Int)=((m.val*16+n.val:Nat):Int):=by decide+kernel
theorem YW (m n:Nat) (hm:m<16) (hn:n<16) (hx:ev Γ x=some (.int .u8 ((m*16:Nat):Int))) (hy:ev Γ y=some (.int .u8 ((n:Nat):Int))) (k:K (.int .u8 ((m*16+n:Nat):Int)) w):az P Γ w (.binOp .or xt x y yt) ty K:=
  uF ((m*16+n:Nat):Int) hx hy (congrArg some (afX ⟨m,hm⟩ ⟨n,hn⟩)) k
end
theorem kU {n:Nat} (h:n<256):(if IntKind.i64.signed then-(2^(IntKind.i64.bits-1):Int) else 0)≤((n:Nat):Int)∧((n:Nat):Int)≤IntKind.i64.max:=by
  simp [IntKind.signed,IntKind.bits,IntKind.max];omega
theorem ext_toList (s:ByteArray) (a b:Nat):(s.extract a b).data.toList=(s.data.toList.drop a).take (b-a):=by
  rw [ByteArray.data_extract,Array.toList_extract,List.extract_eq_take_drop]
theorem K2 (s:ByteArray) (a:Nat):(s.extract a s.size).data.toList=s.data.toList.drop a:=by
  rw [ext_toList,List.take_of_length_le]
  rw [List.length_drop];exact Nat.le_refl _
theorem Oi {x:UInt8} {n:Nat} (hn:n<256):(UInt8.ofNat n==x)=decide (x.toNat=n):=by
  rw [Bool.eq_iff_iff,beq_iff_eq,decide_eq_true_eq]
  constructor
  · rintro rfl;rw [UInt8.toNat_ofNat'];exact Nat.mod_eq_of_lt hn
  · rintro rfl;exact UInt8.ofNat_toNat
theorem abp (l:List UInt8) (b c:Nat) (hb:b<256) (hc:c<256):[UInt8.ofNat b,UInt8.ofNat c].isPrefixOf l=decide (2≤l.length∧(l.getD 0 0).toNat=b∧(l.getD 1 0).toNat=c):=by
  match l with
  | []=>simp
  | [x]=>simp only [List.isPrefixOf,Bool.and_false];simp
  | x::y::l=>
    simp only [List.isPrefixOf,Oi hb,Oi hc]
    rw [Bool.eq_iff_iff];simp
theorem jV {α:Type} (l:List α) (a i:Nat) (d:α):(l.drop a).getD i d=l.getD (a+i) d:=by
  simp [List.getD_eq_getElem?_getD,List.getElem?_drop]
theorem xv (p:ByteArray):p.data.toList.length=p.size:=rfl
theorem Cc (p:ByteArray) (a i:Nat):Lib.occAt (p.data.toList.drop a) [58,93] i=jC p a (a+i):=by
  unfold Lib.occAt jC
  rw [show ([58,93]:List UInt8)=[UInt8.ofNat 58,UInt8.ofNat 93] from rfl,abp _ 58 93 dF dF]
  rw [decide_eq_decide,jV,jV,jV,jV,List.length_drop,List.length_drop,xv]
  unfold bn
  rw [show a+(i+0)=a+i by omega,show a+(i+1)=a+i+1 by omega]
  constructor
  · rintro ⟨h1,h2,h3⟩;exact ⟨by omega,by omega,h2,h3⟩
  · rintro ⟨h1,h2,h3,h4⟩;exact ⟨by omega,h3,h4⟩
def oe (s:ByteArray):ByteArray:=⟨(Lib.cut s.data.toList [58,93]).1.toArray⟩
def aif (s:ByteArray):ByteArray:=⟨(Lib.cut s.data.toList [58,93]).2.1.toArray⟩
def RB (s:ByteArray):Bool:=(Lib.cut s.data.toList [58,93]).2.2
theorem RA (p:ByteArray) (a:Nat):(RB (p.extract a p.size)=true∧∃i,cutAt p a=some i∧oe (p.extract a p.size)=p.extract a i∧(oe (p.extract a p.size)).size=i-a)∨(RB (p.extract a p.size)=false∧cutAt p a=none):=by
  unfold RB oe
  rw [K2]
  rcases Lib.index_spec (p.data.toList.drop a) [58,93] with ⟨h1,h2⟩|⟨i,h1,h2,h3,h4⟩
  · refine .inr ⟨by unfold Lib.cut;rw [if_neg oz],yU fun k hk SM=>?_⟩
    have:=h2 (k-a) (by rw [List.length_drop,xv];omega)
    rw [Cc,show a+(k-a)=k by omega] at this;exact this
  · have hc:jC p a (a+i)=true:=by rw [←Cc];exact h3
    have hr:a+i<p.size:=by unfold jC at hc;rw [decide_eq_true_eq] at hc;omega
    have e:(⟨(Lib.cut (p.data.toList.drop a) [58,93]).1.toArray⟩:ByteArray)=p.extract a (a+i):=by
      apply ByteArray.ext;apply Array.ext'
      rw [ext_toList]
      unfold Lib.cut;rw [if_pos oz,h1]
      simp
    refine .inl ⟨by unfold Lib.cut;rw [if_pos oz],a+i,yT hc (fun k hk SM=>?_),e,?_⟩
    · have:=h4 (k-a) oz
      rw [Cc,show a+(k-a)=k by omega] at this;exact this
    · rw [e,ByteArray.size_extract,Nat.min_eq_left oz]
theorem No (s:ByteArray):(oe s).size≤s.size:=by
  unfold oe
  show (Lib.cut s.data.toList [58,93]).1.toArray.size≤s.size
  unfold Lib.cut
  split
  · simp;exact Nat.min_le_right _ _
  · simp
def hpN (s:ByteArray):Bool:=Lib.hasPrefix s.data.toList [91,58]
theorem Bk {p:ByteArray} {a:Nat} (ha:a<p.size):hpN (p.extract a p.size)=named p a:=by
  unfold hpN Lib.hasPrefix named
  rw [K2,show ([91,58]:List UInt8)=[UInt8.ofNat 91,UInt8.ofNat 58] from rfl,abp _ 91 58 dF dF,decide_eq_decide,jV,jV,List.length_drop,xv]
  unfold bn
  rw [Nat.add_zero]
  constructor
  · rintro ⟨h1,h2,h3⟩;exact ⟨by omega,h2,h3⟩
  · rintro ⟨h1,h2,h3⟩;exact ⟨by omega,h2,h3⟩
def Aq (on:Option Int) (x:Bs) (nx:Int) (q:Bs×Nat):Prop:=x=q.1∧nx=((q.2:Nat):Int)∧(∀o,on=some o→o=uh q.1)
def nF (on:Option Int) (nm:Option Bool) (x:Bs) (nx:Int) (q:Bs×Nat×Bool):Prop:=x=q.1∧nx=((q.2.1:Nat):Int)∧(∀o,on=some o→o=jO q.1 q.2.2)∧(∀o,nm=some o→o=q.2.2)
def Dz (x:Bs) (nx:Int) (q:Bs×Nat):Prop:=x=q.1∧nx=((q.2:Nat):Int)
def Dx (lo hi nx:Int) (q:Int×Int×Nat):Prop:=lo=q.1∧hi=q.2.1∧nx=((q.2.2:Nat):Int)
def aeu (t:Tk) (nx:Int) (q:Tk×Nat):Prop:=t=q.1∧nx=((q.2:Nat):Int)
def fZ (p:ByteArray) (a:Nat) (t:Tk) (nx:Int) (ok:Bool):Prop:=∃r,GF p a r∧Is r ok (aeu t nx)
theorem HJ {s:Bs} (h:(bK s).length=1):uh s=(((bK s).getD 0 0:Nat):Int):=if_pos h
theorem CT {s:Bs} {c:Nat} (e:bK s=[c]):s=gU [c]:=by
  have hc:c<256:=(fj.1 (e▸List.mem_singleton.2 rfl:c∈bK s)).1
  refine Bs.te fun x hx=>?_
  rw [nZ (by intro y hy;simp at hy;omega) hx,Bool.eq_iff_iff,decide_eq_true_eq,List.mem_singleton]
  have:= @fj s x
  rw [e,List.mem_singleton] at this
  rw [this]
  exact ⟨fun h=>⟨hx,h⟩,fun h=>h.2⟩
theorem Mr {s:Bs} (h:(bK s).length=1):gU [(bK s).getD 0 0]=s:=by
  have e:bK s=[(bK s).getD 0 0]:=by
    match bK s,h with
    | [x],_=>rfl
  exact (CT e).symm
theorem Bw {p:ByteArray} {a:Nat} (h:a+1≥p.size):fP p a=none:=by unfold fP;rw [if_pos h]
theorem F4 {p:ByteArray} {a:Nat} (hx:bn p (a+1)=120) (h:a+3≥p.size):fP p a=none:=by
  unfold fP
  by_cases h0:a+1≥p.size
  · rw [if_pos h0]
  · rw [if_neg h0,if_pos hx,if_pos h]
theorem yL {p:ByteArray} {a:Nat} (hx:bn p (a+1)=120) (h:¬(eg (bn p (a+2))=true∧eg (bn p (a+3))=true)):fP p a=none:=by
  unfold fP
  by_cases h0:a+1≥p.size
  · rw [if_pos h0]
  · rw [if_neg h0,if_pos hx]
    by_cases h3:a+3≥p.size
    · rw [if_pos h3]
    · rw [if_neg h3,if_neg h]
theorem FZ {p:ByteArray} {a:Nat} (hx:bn p (a+1)=120) (h3:¬a+3≥p.size) (h:eg (bn p (a+2))=true∧eg (bn p (a+3))=true):fP p a=some (gU [dG (bn p (a+2))*16+dG (bn p (a+3))],a+4):=by
  unfold fP
  rw [if_neg oz,if_pos hx,if_neg h3,if_pos h]
theorem uv (p:ByteArray) (j:Nat):dG (bn p j)<16:=(rA (cV p j)).2.2.1
theorem K5 {p:ByteArray} {a:Nat} {x:Bs} {nx on:Int} (hx:bn p (a+1)=120) (h3:¬a+3≥p.size) (MM:x=gU [dG (bn p (a+2))*16+dG (bn p (a+3))]) (Qy:on=((dG (bn p (a+2))*16+dG (bn p (a+3)):Nat):Int)) (hn:nx=(a:Int)+4):
    Is (fP p a) (eg (bn p (a+2))&&eg (bn p (a+3))) (Aq (some on) x nx):=by
  have l1:=uv p (a+2);have l2:=uv p (a+3)
  by_cases h:eg (bn p (a+2))=true∧eg (bn p (a+3))=true
  · rw [h.1,h.2]
    refine Is.yes (FZ hx h3 h) ⟨MM,by rw [hn];simp,fun o ho=>?_⟩
    cases ho
    rw [Kn oz,Qy]
  · rw [show (eg (bn p (a+2))&&eg (bn p (a+3)))=false by rw [Bool.eq_false_iff];simpa using h]
    exact Is.no (yL hx h)
theorem IV {p:ByteArray} {a:Nat} {x:Bs} {nx:Int} {on:Option Int} (h:¬a+1≥p.size) (hx:bn p (a+1)≠120) (MM:x=(dm (bn p (a+1))).1) (hn:nx=(a:Int)+2) (ho:∀o,on=some o→o=uh (dm (bn p (a+1))).1):
    Is (fP p a) (dm (bn p (a+1))).2 (Aq on x nx):=by
  have e:fP p a=if (dm (bn p (a+1))).2=true then some ((dm (bn p (a+1))).1,a+2) else none:=by
    unfold fP;rw [if_neg h,if_neg hx]
  rcases hb:(dm (bn p (a+1))).2 with _|_
  · rw [hb] at e;exact Is.no e
  · rw [hb] at e;exact Is.yes e ⟨MM,by rw [hn];simp,ho⟩
theorem Q2 {p:ByteArray} {a:Nat} {x:Bs} {nx on:Int} (h:¬a+1≥p.size) (hx:bn p (a+1)≠120) (h1:(bK (dm (bn p (a+1))).1).length=1) (MM:x=gU [(bK (dm (bn p (a+1))).1).getD 0 0]) (Qy:on=(((bK (dm (bn p (a+1))).1).getD 0 0:Nat):Int)) (hn:nx=(a:Int)+2):
    Is (fP p a) (dm (bn p (a+1))).2 (Aq (some on) x nx):=
  IV h hx (MM.trans (Mr h1)) hn (fun o ho=>by cases ho;rw [Qy,HJ h1])
theorem Q3 {p:ByteArray} {a:Nat} {x:Bs} {nx on:Int} (h:¬a+1≥p.size) (hx:bn p (a+1)≠120) (h1:(bK (dm (bn p (a+1))).1).length≠1) (MM:x=(dm (bn p (a+1))).1) (Qy:on= -1) (hn:nx=(a:Int)+2):
    Is (fP p a) (dm (bn p (a+1))).2 (Aq (some on) x nx):=
  IV h hx MM hn (fun o ho=>by cases ho;rw [Qy];unfold uh;rw [if_neg h1])
theorem BE {s:Bs} (h:(bK s).length=1):(bK s).getD 0 0<256:=(fj.1 (au (d:=0) (show 0<(bK s).length by omega))).1
theorem Eh {p:ByteArray} {a:Nat} {x:Bs} {nx:Int} {on:Option Int} {ok:Bool} (h:bn p a=92) (he:Is (fP p a) ok (Aq on x nx)):Is (eA p a) ok (nF on (some false) x nx):=by
  unfold eA;rw [if_pos h]
  exact Is.map he (fun q hq=>⟨hq.1,hq.2.1,fun o ho=>by rw [hq.2.2 o ho];rfl,fun o ho=>by cases ho;rfl⟩)
theorem nF.LB {x:Bs} {nx:Int} {on:Option Int} {nm:Option Bool} {q:Bs×Nat×Bool} (h:nF on nm x nx q):nF on none x nx q:=⟨h.1,h.2.1,h.2.2.1,fun o ho=>by cases ho⟩
theorem iN {p:ByteArray} {a:Nat} (h:named p a=true):a+1<p.size∧bn p a=91∧bn p (a+1)=58:=by unfold named at h;simpa using h
theorem Ei {p:ByteArray} {a:Nat} {x:Bs} {nx on:Int} (h:named p a=true) (MM:x=cA (oe (p.extract (a+2) p.size))) (Qy:on= -1) (hn:nx=(a:Int)+(oe (p.extract (a+2) p.size)).size+4):
    Is (eA p a) (RB (p.extract (a+2) p.size)&&fY (oe (p.extract (a+2) p.size))) (nF (some on) none x nx):=by
  have hr:=iN h
  unfold eA;rw [if_neg oz,if_pos h]
  rcases RA p (a+2) with ⟨h1,i,h2,h3,h4⟩|⟨h1,h2⟩
  · rw [h1,h2,Bool.true_and]
    have hi:=BB h2
    simp only
    rw [←h3]
    rcases hc:fY (oe (p.extract (a+2) p.size)) with _|_
    · rw [if_neg dF];exact rfl
    · rw [if_pos rfl]
      have e9:nx=((i+2:Nat):Int):=by rw [hn,h4];omega
      exact ⟨rfl,MM,e9,fun o ho=>by cases ho;rw [Qy];rfl,fun o ho=>by cases ho⟩
  · rw [h1,h2,Bool.false_and];exact rfl
theorem AS {p:ByteArray} {a:Nat} {x:Bs} {nx:Int} {on:Option Int} (h:bn p a≠92) (h2:¬named p a=true) (MM:x=gU [bn p a]) (Qy:∀o,on=some o→o=(bn p a:Int)) (hn:nx=(a:Int)+1):Is (eA p a) true (nF on (some false) x nx):=by
  unfold eA;rw [if_neg h,if_neg h2]
  exact ⟨rfl,MM,by rw [hn];simp,fun o ho=>by rw [Qy o ho,←Kn (cV p a)];rfl,fun o ho=>by cases ho;rfl⟩
theorem Hg {p:ByteArray} {a i:Nat} {x:Bs} {nx:Int} (h:named p a=true) (hi:cutAt p (a+2)=some i) (MM:x=dc (ed (p.extract (a+2) i))) (hn:nx=(i:Int)+2):
    Is (eA p a) (isOk (p.extract (a+2) i)) (nF none (some true) x nx):=by
  have hr:=iN h
  obtain ⟨c1,c2⟩:=RF (p.extract (a+2) i)
  unfold eA;rw [if_neg oz,if_pos h,hi]
  simp only
  rw [←c2]
  rcases hc:fY (p.extract (a+2) i) with _|_
  · rw [if_neg dF];exact rfl
  · rw [if_pos rfl]
    have e9:nx=((i+2:Nat):Int):=by rw [hn];omega
    have e8:x=cA (p.extract (a+2) i):=by rw [MM,c1]
    refine ⟨rfl,e8,e9,?_,?_⟩
    · intro o ho;cases ho
    · intro o ho;cases ho;rfl
theorem LW {p:ByteArray} {a:Nat} (h:named p a=true) (hi:cutAt p (a+2)=none):eA p a=none:=by
  have hr:=iN h
  unfold eA;rw [if_neg oz,if_pos h,hi]
theorem Kh {p:ByteArray} {a:Nat} (h:eA p a=none):kb p a=none:=by unfold kb;rw [h]
theorem lf {p:ByteArray} {a:Nat} {x:Bs} {on nx:Int} {nm:Option Bool} {ok:Bool} (h:Is (eA p a) ok (nF (some on) nm x nx)) (hr:ok=true→¬(0≤on∧nx+1<p.size∧bn p nx.toNat=45∧bn p (nx+1).toNat≠93)):Is (kb p a) ok (Dz x nx):=by
  rcases e:eA p a with _|⟨s,n,m⟩
  · rw [e] at h;rw [show kb p a=none from Kh e];exact h
  · rw [e] at h
    obtain ⟨h1,h2,h3,h4,h5⟩:=h
    have e2:kb p a=some (s,n):=by
      unfold kb;rw [e];simp only
      rw [if_neg]
      intro h9
      unfold wC at h9;rw [decide_eq_true_eq] at h9
      have h6:=h4 on rfl
      simp only at h6 h3
      refine hr h1 ⟨by omega,by omega,?_,?_⟩
      · rw [show nx.toNat=n by omega];exact h9.2.2.1
      · rw [show (nx+1).toNat=n+1 by omega];exact h9.2.2.2
    rw [e2];exact ⟨h1,h2,h3⟩
theorem sv {p:ByteArray} {a:Nat} {x y:Bs} {on nx om ny:Int} {nm NM:Option Bool} (h:Is (eA p a) true (nF (some on) nm x nx)) (hr:0≤on∧nx+1<p.size∧bn p nx.toNat=45∧bn p (nx+1).toNat≠93) {ok:Bool} (h2:Is (eA p (nx+1).toNat) ok (nF (some om) NM y ny)):
    kb p a=if ok=true then if om<on then none else some (bM on.toNat om.toNat,ny.toNat) else none:=by
  obtain ⟨⟨s,n,m⟩,e,q1,q2,q3,q4⟩:=h.t rfl
  have o1:=q3 on rfl
  simp only at o1 q2
  have en:(nx+1).toNat=n+1:=by omega
  rw [en] at h2 hr
  unfold kb;rw [e];simp only
  rw [if_pos (by unfold wC;rw [decide_eq_true_eq];exact ⟨by omega,by omega,by rw [show n=nx.toNat by omega];exact hr.2.2.1,hr.2.2.2⟩)]
  rcases e2:eA p (n+1) with _|⟨s2,n2,m2⟩
  · rw [e2] at h2;have wO:ok=false:=h2
    rw [wO,if_neg dF]
  · rw [e2] at h2
    obtain ⟨r1,r2,r3,r4,r5⟩:=h2
    have o2:=r4 om rfl
    simp only at o2 r3
    rw [r1,if_pos rfl];simp only
    rw [←o1,←o2]
    by_cases cX:om<on
    · rw [if_pos cX,if_pos cX]
    · rw [if_neg cX,if_neg cX,show ny.toNat=n2 by omega]
theorem Is.abz {p:ByteArray} {a:Nat} {x:Bs} {nx:Int} {ok:Bool} {q:Option (Bs×Nat)} (h:wj p (fS p a) Bs.zero q) (e:Is q ok (fun y=>x=y7 (oI p a) y.1∧nx=((y.2:Nat):Int))):∃r,uV p a r∧Is r ok (Dz x nx):=
  ⟨_,⟨q,h,rfl⟩,Is.map e (fun y hy=>hy)⟩
theorem Vd {p:ByteArray} {i:Nat} {r:Bs} {ok:Bool} (h:i<p.size→bn p i=93) (bX:ok=true↔i<p.size):∃q,wj p i r q∧Is q ok (fun y=>y=(r,i+1)):=by
  by_cases hi:i<p.size
  · exact ⟨_,.stop hi (h hi),bX.2 hi,rfl⟩
  · exact ⟨_,.over hi,Bool.eq_false_iff.2 fun e=>hi (bX.1 e)⟩
theorem wX {p:ByteArray} {a i:Nat} {r x:Bs} {nx:Int} {ok:Bool} (hI:∀q,wj p i r q→wj p (fS p a) Bs.zero q) (h:i<p.size→bn p i=93) (bX:ok=true↔i<p.size) (hx:x=y7 (oI p a) r) (hn:nx=(i:Int)+1):∃r,uV p a r∧Is r ok (Dz x nx):=by
  obtain ⟨q,h1,h2⟩:=Vd h bX
  exact Is.abz (hI q h1) (h2.mono fun y hy=>by rw [hy];exact ⟨hx,by rw [hn];rfl⟩)
theorem wY {p:ByteArray} {a i:Nat} {r x:Bs} {nx:Int} (hI:∀q,wj p i r q→wj p (fS p a) Bs.zero q) (h:i<p.size) (h2:bn p i≠93) (hp:kb p i=none):∃r,uV p a r∧Is r false (Dz x nx):=
  ⟨_,⟨_,hI _ (.bad h h2 hp),rfl⟩,rfl⟩
theorem R0 {p:ByteArray} {a i:Nat} {r x:Bs} {nx:Int} (hI:∀q,wj p i r q→wj p (fS p a) Bs.zero q) (h:¬i<p.size):∃r,uV p a r∧Is r false (Dz x nx):=
  ⟨_,⟨_,hI _ (.over h),rfl⟩,rfl⟩
theorem BG {p:ByteArray} {a:Nat} (h:a<p.size):a<fS p a∧fS p a≤p.size:=by
  unfold fS
  by_cases hb:oI p a=true
  · rw [if_pos hb];unfold oI at hb;rw [decide_eq_true_eq] at hb;omega
  · rw [if_neg hb];omega
theorem wR {p:ByteArray} {j:Nat} (h:wS p j=true):j<p.size∧48≤bn p j∧bn p j≤57:=by unfold wS at h;simpa using h
theorem Qm {p:ByteArray} {a k:Nat} {q:Bool} (hk:k≤kD p a) (hq:q=(decide (k<3)&&wS p (a+k))) (h:¬q=true):k=kD p a:=by
  refine XD hk ?_
  rw [hq,Bool.and_eq_true,decide_eq_true_eq] at h
  have:=Be p a
  rcases hd:wS p (a+k) with _|_
  · exact .inr rfl
  · exact .inl (by have h3:¬k<3:=fun h3=>h ⟨h3,hd⟩;omega)
theorem VU {p:ByteArray} {a k:Nat} {q:Bool} (hk:k≤kD p a) (hq:q=(decide (k<3)&&wS p (a+k))) (h:q=true):k+1≤kD p a∧k<3∧a+k<p.size∧48≤bn p (a+k)∧bn p (a+k)≤57:=by
  rw [hq,Bool.and_eq_true,decide_eq_true_eq] at h
  exact ⟨T2 hk h.1 h.2,h.1,wR h.2⟩
theorem jE {p:ByteArray} {a k:Nat} (hk:k≤kD p a):dZ p a k≤999:=by
  have h:=JR p a k (fun j hj=>uo oz)
  have h3:=Be p a
  have:10^k≤10^3:=Nat.pow_le_pow_right dF oz
  omega
theorem Fm {p:ByteArray} {a:Nat} (h:a≤p.size):a+kD p a≤p.size:=by
  rcases Nat.eq_zero_or_pos (kD p a) with e|e
  · omega
  · have:=(wR (uo (p:=p) (a:=a) (k:=kD p a-1) oz)).1;omega
theorem Q7 {c:Nat} (h:48≤c∧c≤57):ee c=(c:Int)-48:=if_pos h
theorem xN {p:ByteArray} {a:Nat} (h:¬cD p (a+1)=true∨a+1+kD p (a+1)≥p.size):iF p a=none:=by
  unfold iF;simp only;rw [if_pos h]
theorem o9 {p:ByteArray} {a:Nat} {lo hi nx:Int} {ok:Bool} (hn:cD p (a+1)=true) (wL:a+1+kD p (a+1)<p.size) (h44:bn p (a+1+kD p (a+1))≠44) (bX:ok=true↔bn p (a+1+kD p (a+1))=125)
    (e1:lo=(dZ p (a+1) (kD p (a+1)):Nat)) (e2:hi=(dZ p (a+1) (kD p (a+1)):Nat)) (e3:nx=((a+1+kD p (a+1):Nat):Int)+1):Is (iF p a) ok (Dx lo hi nx):=by
  unfold iF;simp only
  rw [if_neg (by rw [hn];simp;omega)]
  by_cases h:bn p (a+1+kD p (a+1))=125
  · rw [if_pos h];exact ⟨bX.2 h,e1,e2,e3⟩
  · rw [if_neg h,if_pos (.inl h44)];exact Bool.eq_false_iff.2 fun e=>h (bX.1 e)
theorem o8 {p:ByteArray} {a:Nat} {lo hi nx:Int} {ok:Bool} (hn:cD p (a+1)=true) (wL:a+1+kD p (a+1)<p.size) (h44:bn p (a+1+kD p (a+1))=44)
    (qJ:¬(a+1+kD p (a+1)+1<p.size∧bn p (a+1+kD p (a+1)+1)≠125)) (bX:ok=true↔a+1+kD p (a+1)+1<p.size∧bn p (a+1+kD p (a+1)+1)=125)
    (e1:lo=(dZ p (a+1) (kD p (a+1)):Nat)) (e2:hi= -1) (e3:nx=((a+1+kD p (a+1):Nat):Int)+1+1):Is (iF p a) ok (Dx lo hi nx):=by
  unfold iF;simp only
  rw [if_neg (by rw [hn];simp;omega),if_neg oz]
  by_cases h:a+1+kD p (a+1)+1<p.size
  · have h1:bn p (a+1+kD p (a+1)+1)=125:=Classical.byContradiction fun h1=>qJ ⟨h,h1⟩
    rw [if_neg oz,if_pos h1];exact ⟨bX.2 ⟨h,h1⟩,e1,e2,by rw [e3];simp;omega⟩
  · rw [if_pos oz];exact Bool.eq_false_iff.2 fun e=>h (bX.1 e).1
theorem xO {p:ByteArray} {a:Nat} (h44:bn p (a+1+kD p (a+1))=44) (h:¬cD p (a+1+kD p (a+1)+1)=true∨dZ p (a+1+kD p (a+1)+1) (kD p (a+1+kD p (a+1)+1))<dZ p (a+1) (kD p (a+1))) (h2:bn p (a+1+kD p (a+1)+1)≠125):iF p a=none:=by
  have hv:kp p (a+1+kD p (a+1)+1)<((dZ p (a+1) (kD p (a+1)):Nat):Int):=by
    unfold kp
    by_cases hn:cD p (a+1+kD p (a+1)+1)=true
    · rw [if_pos hn]
      rcases h with h|h
      · exact absurd hn h
      · omega
    · rw [if_neg hn];omega
  by_cases h1:¬cD p (a+1)=true∨a+1+kD p (a+1)≥p.size
  · exact xN h1
  · by_cases h3:a+1+kD p (a+1)+1≥p.size
    · unfold iF;simp only
      rw [if_neg h1,if_neg oz,if_pos (.inr h3)]
    · unfold iF;simp only
      rw [if_neg h1,if_neg oz,if_neg oz,if_neg h2,if_pos (.inl hv)]
theorem oE {p:ByteArray} {a:Nat} {lo hi nx:Int} {ok:Bool} (hn:cD p (a+1)=true) (wL:a+1+kD p (a+1)+1<p.size) (h44:bn p (a+1+kD p (a+1))=44) (h2:bn p (a+1+kD p (a+1)+1)≠125)
    (XZ:cD p (a+1+kD p (a+1)+1)=true) (hv:¬dZ p (a+1+kD p (a+1)+1) (kD p (a+1+kD p (a+1)+1))<dZ p (a+1) (kD p (a+1)))
    (bX:ok=true↔a+1+kD p (a+1)+1+kD p (a+1+kD p (a+1)+1)<p.size∧bn p (a+1+kD p (a+1)+1+kD p (a+1+kD p (a+1)+1))=125)
    (e1:lo=(dZ p (a+1) (kD p (a+1)):Nat)) (e2:hi=(dZ p (a+1+kD p (a+1)+1) (kD p (a+1+kD p (a+1)+1)):Nat)) (e3:nx=((a+1+kD p (a+1)+1+kD p (a+1+kD p (a+1)+1):Nat):Int)+1):Is (iF p a) ok (Dx lo hi nx):=by
  have e9:kp p (a+1+kD p (a+1)+1)=(dZ p (a+1+kD p (a+1)+1) (kD p (a+1+kD p (a+1)+1)):Nat):=if_pos XZ
  unfold iF;simp only
  rw [if_neg (by rw [hn];simp;omega),if_neg oz,if_neg oz,if_neg h2,e9]
  by_cases h:a+1+kD p (a+1)+1+kD p (a+1+kD p (a+1)+1)<p.size∧bn p (a+1+kD p (a+1)+1+kD p (a+1+kD p (a+1)+1))=125
  · rw [if_neg oz];exact ⟨bX.2 h,e1,e2,e3⟩
  · rw [if_pos oz];exact Bool.eq_false_iff.2 fun e=>h (bX.1 e)
theorem JX {p:ByteArray} {a:Nat} {t:Tk} {lo hi nx:Int} {ok:Bool} (h:bn p a=123) (hr:Is (iF p a) ok (Dx lo hi nx)) (ht:t=⟨5,a,Bs.zero,lo,hi⟩):fZ p a t nx ok:=by
  refine ⟨_,.inr ⟨by omega,rfl⟩,?_⟩
  unfold jG
  repeat (first|rw [if_pos oz]|rw [if_neg oz])
  exact Is.map hr (fun x hx=>⟨by rw [ht,hx.1,hx.2.1];rfl,hx.2.2⟩)
theorem nL {p:ByteArray} {a:Nat} {t:Tk} {x:Bs} {nx:Int} {ok:Bool} (h:bn p a=91) (hr:∃r,uV p a r∧Is r ok (Dz x nx)) (ht:t=⟨1,a,x,0,0⟩):fZ p a t nx ok:=by
  obtain ⟨r,h1,h2⟩:=hr
  exact ⟨_,.inl ⟨h,r,h1,rfl⟩,Is.map h2 (fun q hq=>⟨by rw [ht,hq.1];rfl,hq.2⟩)⟩
theorem nK {p:ByteArray} {a:Nat} {t:Tk} {x:Bs} {nx:Int} {on:Option Int} {ok:Bool} (h:bn p a=92) (hr:Is (fP p a) ok (Aq on x nx)) (ht:t=⟨1,a,x,0,0⟩):fZ p a t nx ok:=by
  refine ⟨_,.inr ⟨by omega,rfl⟩,?_⟩
  unfold jG
  repeat (first|rw [if_pos oz]|rw [if_neg oz])
  exact Is.map hr (fun q hq=>⟨by rw [ht,hq.1];rfl,hq.2.1⟩)
theorem dC {p:ByteArray} {a:Nat} {t:Tk} {nx:Int} {ok:Bool} (h:bn p a≠91) (hr:Is (jG p a) ok (aeu t nx)):fZ p a t nx ok:=⟨_,.inr ⟨h,rfl⟩,hr⟩
theorem D2 {p:ByteArray} {aI:Int} {o:List Tk} {t:Tk} {nx:Int} (h0:0≤aI) (hl:aI<p.size) (hs:p.size≤200) (hI:∀r,j1 p aI.toNat o r→j1 p 0 [] r) (ht:fZ p aI.toNat t nx false):eS p ⟨[],aI,3⟩:=by
  obtain ⟨r,h1,h2⟩:=ht
  have e:=h2.f dF;subst e
  unfold eS;rw [if_neg oz]
  have:=hI _ (.bad oz h1)
  rw [show ((aI.toNat:Nat):Int)=aI by omega] at this;exact this
theorem AG {p:ByteArray} {aI:Int} {o:List Tk} (hl:¬aI<p.size) (hs:p.size≤200) (hI:∀r,j1 p aI.toNat o r→j1 p 0 [] r):eS p ⟨o,0,0⟩:=by
  unfold eS;rw [if_neg oz]
  exact hI _ (.done oz)
theorem AF {p:ByteArray} (hs:p.size>200):eS p ⟨[],0,4⟩:=by unfold eS;rw [if_pos hs]
theorem AE {p:ByteArray} {aI nx:Int} {o:List Tk} {t:Tk} (h0:0≤aI) (hl:aI<p.size) (hI:∀r,j1 p aI.toNat o r→j1 p 0 [] r) (ht:fZ p aI.toNat t nx true):
    (∀r,j1 p nx.toNat (o++[t]) r→j1 p 0 [] r)∧aI<nx∧nx≤p.size:=by
  obtain ⟨r,h1,h2⟩:=ht
  obtain ⟨⟨t2,n⟩,rfl,h3,h4⟩:=h2.t rfl
  simp only at h3 h4
  subst h3
  have hr:=h1.k8 oz
  refine ⟨fun r iK=>hI r (.step oz h1 ?_),by omega,by omega⟩
  rw [show n=nx.toNat by omega];exact iK
theorem Is.zero {α:Type} {r:Option α} {P:α→Prop} (h:r=none):Is r (decide ((0:Int)≠0)) P:=Is.no h
theorem Is.pos {α:Type} {r:Option α} {P:α→Prop} {nx:Int} (h:0<nx) (hr:Is r true P):Is r (decide (nx≠0)) P:=by
  rw [decide_eq_true oz];exact hr
theorem B2 {p:ByteArray} {a:Nat} (hx:bn p (a+1)=120) (h:a+3≥p.size∨ee (bn p (a+2))<0∨ee (bn p (a+3))<0):fP p a=none:=by
  rcases h with h|h|h
  · exact F4 hx h
  · exact yL hx fun h9=>by have h8:=h9.1;rw [(rA (cV p (a+2))).1,decide_eq_true_eq] at h8;omega
  · exact yL hx fun h9=>by have h8:=h9.2;rw [(rA (cV p (a+3))).1,decide_eq_true_eq] at h8;omega
theorem O4 {p:ByteArray} {a:Nat} {nx:Int} (hx:bn p (a+1)=120) (h3:¬a+3≥p.size) (h:0≤ee (bn p (a+2))) (h':0≤ee (bn p (a+3))) (hn:nx=(a:Int)+4):
    Is (fP p a) true (Aq none (bM (ee (bn p (a+2))*16+ee (bn p (a+3))).toNat (ee (bn p (a+2))*16+ee (bn p (a+3))).toNat) nx):=by
  obtain ⟨e1,e2,e3,_⟩:=rA (cV p (a+2));obtain ⟨f1,f2,f3,_⟩:=rA (cV p (a+3))
  have e2:=e2 h;have f2:=f2 h'
  refine Is.yes (FZ hx h3 ⟨by rw [e1,decide_eq_true_eq];exact h,by rw [f1,decide_eq_true_eq];exact h'⟩) ⟨?_,by rw [hn];rfl,fun o ho=>by cases ho⟩
  rw [show (ee (bn p (a+2))*16+ee (bn p (a+3))).toNat=dG (bn p (a+2))*16+dG (bn p (a+3)) by omega,range_one oz]
theorem Tw {p:ByteArray} {a:Nat} {nx:Int} (h:¬a+1≥p.size) (hx:bn p (a+1)≠120) (hn:nx=(a:Int)+2):Is (fP p a) (decide (dc (kr (bn p (a+1)))≠Bs.zero)) (Aq none (dc (kr (bn p (a+1)))) nx):=by
  obtain ⟨e1,e2⟩:=YL (cV p (a+1))
  rw [←e2]
  exact IV h hx e1.symm hn (fun o ho=>by cases ho)
theorem nF.up {nm:Bool} {x:Bs} {nx:Int} {q:Bs×Nat×Bool} (h:nF none (some nm) x nx q):nF (some (jO x nm)) (some nm) x nx q:=
  ⟨h.1,h.2.1,fun o ho=>by cases ho;rw [h.1,h.2.2.2 nm rfl],h.2.2.2⟩
theorem ly {p:ByteArray} {a:Nat} {x:Bs} {nx:Int} {nm:Bool} (h:Is (eA p a) true (nF none (some nm) x nx)) (hr:¬(0≤jO x nm∧nx+1<p.size∧bn p nx.toNat=45∧bn p (nx+1).toNat≠93)):kb p a=some (x,nx.toNat):=by
  obtain ⟨q,h1,h2,h3⟩:=(lf (h.mono fun q hq=>hq.up) (fun _=>hr)).t rfl
  rw [h1]
  obtain ⟨q1,q2⟩:=q
  simp only at h2 h3
  rw [h2,h3];rfl
theorem ER (s:Bs) (nm:Bool): -1≤jO s nm∧jO s nm<256:=by
  unfold jO
  by_cases h:nm=true
  · rw [if_pos h];omega
  · rw [if_neg h];exact PH s
theorem tU {p:ByteArray} {a:Nat} {x y:Bs} {nx ny:Int} {nm NM ok:Bool} (h:Is (eA p a) true (nF none (some nm) x nx)) (hr:0≤jO x nm∧nx+1<p.size∧bn p nx.toNat=45∧bn p (nx+1).toNat≠93) (h2:Is (eA p (nx+1).toNat) ok (nF none (some NM) y ny)):
    kb p a=if ok=true then if jO y NM<jO x nm then none else some (bM (jO x nm).toNat (jO y NM).toNat,ny.toNat) else none:=
  sv (h.mono fun q hq=>hq.up) hr (h2.mono fun q hq=>hq.up)
theorem Ks {p:ByteArray} {a:Nat} (h:kp p a<0):¬cD p a=true:=fun h9=>by unfold kp at h;rw [if_pos h9] at h;omega
theorem pj {p:ByteArray} {a:Nat} (h:¬kp p a<0):cD p a=true∧kp p a=((dZ p a (kD p a):Nat):Int):=by
  by_cases h9:cD p a=true
  · exact ⟨h9,if_pos h9⟩
  · exfalso;apply h;unfold kp;rw [if_neg h9];omega
theorem Ci {p:ByteArray} {a v:Nat} (h:kp p a<((v:Nat):Int)):¬cD p a=true∨dZ p a (kD p a)<v:=by
  by_cases h9:cD p a=true
  · right;unfold kp at h;rw [if_pos h9] at h;omega
  · exact .inl h9
theorem E6 (p:ByteArray) (a:Nat): -1≤kp p a∧kp p a≤999:=by
  have:=jE (p:=p) (Nat.le_refl (kD p a))
  unfold kp
  by_cases h9:cD p a=true
  · rw [if_pos h9];omega
  · rw [if_neg h9];omega
def mG (p:ByteArray) (a:Nat) (t:Tk) (nx:Int):Prop:=fZ p a t nx (decide (nx≠0))
theorem fZ.zero {p:ByteArray} {a:Nat} {t t':Tk} {nx:Int} (h:fZ p a t nx false):mG p a t' 0:=by
  obtain ⟨r,h1,h2⟩:=h
  exact ⟨r,h1,Is.zero (h2.f dF)⟩
theorem fZ.pos {p:ByteArray} {a:Nat} {t:Tk} {nx:Int} (ha:a<p.size) (h:fZ p a t nx true):mG p a t nx:=by
  obtain ⟨r,h1,h2⟩:=h
  obtain ⟨⟨t2,n⟩,rfl,h3,h4⟩:=h2.t rfl
  have:=h1.k8 ha
  simp only at h4
  exact ⟨_,h1,Is.pos oz h2⟩
theorem mG.of {p:ByteArray} {a:Nat} {t:Tk} {nx:Int} {ok:Bool} (ha:a<p.size) (h:fZ p a t nx ok) (hk:ok=true):mG p a t nx:=fZ.pos ha (hk▸h)
theorem AU:∀j:Fin 5,bn ⟨#[124,40,41,94,36]⟩ j.val=[124,40,41,94,36].getD j.val 0:=by decide+kernel
theorem OP {p:ByteArray} {a k:Nat} (hk:k<5) (ha:a<p.size) (h:bn ⟨#[124,40,41,94,36]⟩ k=bn p a) {nx:Int} (hn:nx=(a:Int)+1):mG p a ⟨([2,3,4,6,7]:List Int).getD k 0,a,Bs.zero,0,0⟩ nx:=by
  rw [AU ⟨k,hk⟩] at h
  subst hn
  refine fZ.pos ha ?_
  match k,hk,h with
  | 0,_,h=>exact dC (by simp at h;omega) (by unfold jG;(repeat (first|rw [if_pos (by simp at h;omega)]|rw [if_neg (by simp at h;omega)]));exact ⟨rfl,rfl,rfl⟩)
  | 1,_,h=>exact dC (by simp at h;omega) (by unfold jG;(repeat (first|rw [if_pos (by simp at h;omega)]|rw [if_neg (by simp at h;omega)]));exact ⟨rfl,rfl,rfl⟩)
  | 2,_,h=>exact dC (by simp at h;omega) (by unfold jG;(repeat (first|rw [if_pos (by simp at h;omega)]|rw [if_neg (by simp at h;omega)]));exact ⟨rfl,rfl,rfl⟩)
  | 3,_,h=>exact dC (by simp at h;omega) (by unfold jG;(repeat (first|rw [if_pos (by simp at h;omega)]|rw [if_neg (by simp at h;omega)]));exact ⟨rfl,rfl,rfl⟩)
  | 4,_,h=>exact dC (by simp at h;omega) (by unfold jG;(repeat (first|rw [if_pos (by simp at h;omega)]|rw [if_neg (by simp at h;omega)]));exact ⟨rfl,rfl,rfl⟩)
theorem OQ {p:ByteArray} {a:Nat} (h:∀j,j<5→bn ⟨#[124,40,41,94,36]⟩ j≠bn p a):bn p a≠124∧bn p a≠40∧bn p a≠41∧bn p a≠94∧bn p a≠36:=by
  have h':∀j:Fin 5,[124,40,41,94,36].getD j.val 0≠bn p a:=fun j=>by rw [←AU j];exact h j.val j.isLt
  exact ⟨fun e=>h' 0 (by rw [e];decide),fun e=>h' 1 (by rw [e];decide),fun e=>h' 2 (by rw [e];decide),fun e=>h' 3 (by rw [e];decide),fun e=>h' 4 (by rw [e];decide)⟩
theorem Xb {p:ByteArray} {a:Nat} {lo hi nx:Int} {P:Prop} (h:Is (iF p a) true (Dx lo hi nx)):0<nx:=by
  obtain ⟨⟨l,h2,n⟩,h1,_,_,h4⟩:=h.t rfl
  have:=fu h1
  simp only at h4;omega
theorem B4 {p:ByteArray} {a:Nat} {lo hi nx:Int} (h:Is (iF p a) true (Dx lo hi nx)):Is (iF p a) (decide (nx≠0)) (Dx lo hi nx):=Is.pos (Xb (P:=True) h) h
theorem L4 {p:ByteArray} {aI:Int} {o:List Tk} {t:Tk} {nx:Int} (h0:0≤aI) (hl:aI<p.size) (hs:p.size≤200) (hI:∀r,j1 p aI.toNat o r→j1 p 0 [] r) (ht:mG p aI.toNat t nx) (hn:nx=0):eS p ⟨[],aI,3⟩:=by
  unfold mG at ht;rw [decide_eq_false oz] at ht
  exact D2 h0 hl hs hI ht
theorem Hq {p:ByteArray} {aI nx:Int} {o:List Tk} {t:Tk} (h0:0≤aI) (hl:aI<p.size) (hI:∀r,j1 p aI.toNat o r→j1 p 0 [] r) (ht:mG p aI.toNat t nx) (hn:nx≠0):
    (∀r,j1 p nx.toNat (o++[t]) r→j1 p 0 [] r)∧aI<nx∧nx≤p.size:=by
  unfold mG at ht;rw [decide_eq_true hn] at ht
  exact AE h0 hl hI ht
theorem so {p:ByteArray} {a:Nat} {nx:Int} (ha:a<p.size) (h:bn p a=46) (hn:nx=(a:Int)+1):mG p a ⟨1,a,gF (bM 10 10),0,0⟩ nx:=by
  subst hn
  refine fZ.pos ha (dC oz ?_)
  unfold jG
  (repeat (first|rw [if_pos oz]|rw [if_neg oz]))
  rw [range_one dF]
  exact ⟨rfl,rfl,rfl⟩
theorem pX {p:ByteArray} {a:Nat} {nx:Int} (ha:a<p.size) (hs:bn p a≠124∧bn p a≠40∧bn p a≠41∧bn p a≠94∧bn p a≠36) (h1:bn p a≠42) (h2:bn p a≠43) (h3:bn p a≠63) (h4:bn p a≠123) (h5:bn p a≠91) (h6:bn p a≠92) (h7:bn p a≠46) (hn:nx=(a:Int)+1):mG p a ⟨1,a,bM (bn p a) (bn p a),0,0⟩ nx:=by
  subst hn
  refine fZ.pos ha (dC oz ?_)
  unfold jG
  (repeat (first|rw [if_pos oz]|rw [if_neg oz]))
  rw [range_one (cV p a)]
  exact ⟨rfl,rfl,rfl⟩
def lW (p:ByteArray) (o:List Nd) (at_ er:Int):Prop:=∃l a e,eS p ⟨l,a,e⟩∧((e≠0∧o=[]∧at_=a∧er=e)∨(e=0∧GI l p.size o at_ er))
theorem lW.uniq {p:ByteArray} {o o':List Nd} {a a' e e':Int} (h:lW p o a e) (h':lW p o' a' e'):o=o'∧a=a'∧e=e':=by
  obtain ⟨l,x,y,h1,h2⟩:=h
  obtain ⟨l',x',y',wP,wO⟩:=h'
  have:=h1.uniq wP;simp only [NH.mk.injEq] at this
  obtain ⟨rfl,rfl,rfl⟩:=this
  rcases h2 with ⟨q1,q2,q3,q4⟩|⟨q1,q2⟩<;>rcases wO with ⟨r1,r2,r3,r4⟩|⟨r1,r2⟩
  · exact ⟨q2.trans r2.symm,q3.trans r3.symm,q4.trans r4.symm⟩
  · exact absurd r1 q1
  · exact absurd q1 r1
  · exact q2.uniq r2
theorem GI.len {l:List Tk} {e:Int} {o:List Nd} {a r:Int} (h:GI l e o a r):o.length≤512∧(r≠0→o=[]):=by
  unfold GI at h
  rcases h with ⟨k,_,_,hk,rfl,_,hr⟩|⟨_,h⟩
  · exact ⟨Nat.zero_le _,fun _=>rfl⟩
  · rcases h with ⟨_,rfl,_,_⟩|⟨_,h⟩
    · exact ⟨Nat.zero_le _,fun _=>rfl⟩
    · rcases h with ⟨_,rfl,_,_⟩|⟨h1,rfl,_,hr⟩
      · exact ⟨Nat.zero_le _,fun _=>rfl⟩
      · exact ⟨by omega,fun h9=>absurd hr h9⟩
theorem lW.len {p:ByteArray} {o:List Nd} {a e:Int} (h:lW p o a e):o.length≤512∧(e≠0→o=[]):=by
  obtain ⟨l,x,y,h1,h2⟩:=h
  rcases h2 with ⟨q1,rfl,q3,q4⟩|⟨q1,q2⟩
  · exact ⟨Nat.zero_le _,fun _=>rfl⟩
  · exact q2.len
theorem mZ {l:List Nd} {i:Nat} {T:Tr} (h:Sub l i T) (hk:(l.getD i cb).kind=5∨(l.getD i cb).kind=6):∃n a b,T= .bin n a b∧n=l.getD i cb∧(aY T i).length=2∧0≤(aY T i).getD 0 0∧(aY T i).getD 0 0<(i:Int)∧0≤(aY T i).getD 1 0∧(aY T i).getD 1 0<(i:Int)∧Sub l ((aY T i).getD 0 0).toNat a∧Sub l ((aY T i).getD 1 0).toNat b:=by
  rw [h.root.1] at hk
  cases T with
  | leaf n=>have:=h.1;simp only [Tr.wk,Tr.root] at this hk;omega
  | rep n a=>have:=h.1.1;simp only [Tr.root] at hk;omega
  | bin n a b=>
    have hs:=h.bin
    have e0:(aY (.bin n a b) i).getD 0 0=(i:Int)-1-b.flat.length:=rfl
    have e1:(aY (.bin n a b) i).getD 1 0=(i:Int)-1:=rfl
    refine ⟨n,a,b,rfl,h.root.1.symm,rfl,by omega,by have:=dK b;omega,by omega,by omega,?_,?_⟩
    · rw [e0,show ((i:Int)-1-b.flat.length).toNat=i-1-b.flat.length by omega];exact hs.2.2.2
    · rw [e1,show ((i:Int)-1).toNat=i-1 by omega];exact hs.2.1
theorem yo {l:List Nd} {i:Nat} {T:Tr} (h:Sub l i T) (hk:(l.getD i cb).kind=7):∃n a,T= .rep n a∧n=l.getD i cb∧(aY T i).length=1∧0≤(aY T i).getD 0 0∧(aY T i).getD 0 0<(i:Int)∧Sub l ((aY T i).getD 0 0).toNat a:=by
  rw [h.root.1] at hk
  cases T with
  | leaf n=>have:=h.1;simp only [Tr.wk,Tr.root] at this hk;omega
  | rep n a=>
    have hs:=h.rep
    have e0:(aY (.rep n a) i).getD 0 0=(i:Int)-1:=rfl
    refine ⟨n,a,rfl,h.root.1.symm,rfl,by omega,by omega,?_⟩
    rw [e0,show ((i:Int)-1).toNat=i-1 by omega];exact hs.2.1
  | bin n a b=>have:=h.1.1;simp only [Tr.root] at hk;omega
theorem lj {l:List Nd} {i:Nat} {T:Tr} (h:Sub l i T) (hk:¬(l.getD i cb).kind=5∧¬(l.getD i cb).kind=6∧¬(l.getD i cb).kind=7):∃n,T= .leaf n∧n=l.getD i cb:=by
  rw [h.root.1] at hk
  cases T with
  | leaf n=>exact ⟨n,rfl,h.root.1.symm⟩
  | rep n a=>have:=h.1.1;simp only [Tr.root] at hk;omega
  | bin n a b=>have:=h.1.1;simp only [Tr.root] at hk;omega
def He (l:List Int):Int:=l.foldl (· + ·) 0
theorem LM (l:List Int) (x:Int):He (l++[x])=He l+x:=by simp [He]
def OG (T:Tr):Int:=He (T.kids.map br)
theorem mP {T:Tr} (h:T.wk) (hk:T.root.kind=5):min (2+OG T-2) 1048576=br T:=by
  cases T with
  | leaf n=>simp only [Tr.wk,Tr.root] at h hk;omega
  | rep n a=>have:=h.1;simp only [Tr.root] at hk;omega
  | bin n a b=>
    simp only [Tr.root] at hk
    simp only [br,tm,OG,He,Tr.kids,List.map_cons,List.map_nil,List.foldl_cons,List.foldl_nil]
    rw [if_pos hk];congr 1;omega
theorem k6 {T:Tr} (h:T.wk) (hk:¬T.root.kind=5) (hk7:¬T.root.kind=7):min (2+OG T) 1048576=br T:=by
  cases T with
  | leaf n=>rfl
  | rep n a=>have:=h.1;simp only [Tr.root] at hk7;omega
  | bin n a b=>
    simp only [Tr.root] at hk
    simp only [br,tm,OG,He,Tr.kids,List.map_cons,List.map_nil,List.foldl_cons,List.foldl_nil]
    rw [if_neg hk];congr 1;omega
theorem dt {T:Tr} (h:T.wk) (hk:T.root.kind=7):min (eB T.root ((T.kids.map br).getD 0 0)) 1048576=br T:=by
  cases T with
  | leaf n=>simp only [Tr.wk,Tr.root] at h hk;omega
  | rep n a=>rfl
  | bin n a b=>have:=h.1;simp only [Tr.root] at hk;omega
def wi (l:List Nd) (k:Nat) (st:List Int):Prop:=∃F:List Tr,JQ F∧l.take k=bG F∧st=F.map br
theorem wi.start (l:List Nd):wi l 0 []:=⟨[],(by intro x hx;cases hx),xi,rfl⟩
theorem W3 {l:List Nd} {i:Nat} {T:Tr} (h:Sub l i T) (ho:∀n,n∈l→c8 n=true):fo T:=fun n hn=>ho n (by
  have e:=h.eq
  have:n∈l.take (i+1):=by rw [e];exact List.mem_append_right _ hn
  exact List.mem_of_mem_take this)
theorem wi.step {l:List Nd} (hl:oy l) {k:Nat} {st:List Int} (hk:k<l.length) (h:wi l k st):∃(T:Tr) (q:Nat),Sub l k T∧fo T∧(st.length:Int)-cj (l.getD k cb).kind=q∧q≤st.length∧st.drop q=T.kids.map br∧wi l (k+1) (st.take q++[br T])∧T.root=l.getD k cb∧q+T.kids.length=st.length:=by
  obtain ⟨F,hF,e,rfl⟩:=h
  obtain ⟨_,ho,T0,hw0,rfl⟩:=hl
  obtain ⟨T,hT⟩:=rB _ [T0] T0.flat T0.flat.length 0 (Nat.le_refl _) (by intro x hx;simp at hx;subst hx;exact hw0) (Nat.le_refl _) oz xi k oz hk
  obtain ⟨hr,f,hf,e2⟩:=hT.root
  have M5:=eu hT.1
  have agr:∃G0,F=G0++T.kids:=by
    rcases Nat.le_total T.kids.length F.length with h1|h1
    · obtain ⟨G0,h2,_⟩:=fK (j6 hT.1) hF h1 (p:=T0.flat.take f) (q:=[]) (by rw [←e2,e];simp)
      exact ⟨G0,h2⟩
    · obtain ⟨G0,h2,h3⟩:=fK hF (j6 hT.1) h1 (p:=[]) (q:=T0.flat.take f) (by rw [←e2,e];simp)
      have h4:=congrArg List.length h3
      have h5:=nA G0
      simp only [List.length_nil,List.length_append] at h4
      have:G0=[]:=List.length_eq_zero_iff.1 oz
      subst this
      exact ⟨[],by rw [h2];rfl⟩
  obtain ⟨G0,rfl⟩:=agr
  refine ⟨T,G0.length,hT,W3 hT ho,?_,?_,?_,⟨G0++[T],?_,?_,?_⟩,hr.symm,by simp⟩
  · rw [hr,M5,List.length_map,List.length_append];omega
  · simp
  · simp
  · intro x hx
    rcases List.mem_append.1 hx with h9|h9
    · exact hF x (by simp [h9])
    · simp at h9;subst h9;exact hT.1
  · rw [jH _ hk,e,hr,bV,bV,cz,ep T];simp
  · simp
theorem wi.fin {T:Tr} (hw:T.wk) {st:List Int} (h:wi T.flat T.flat.length st):st=[br T]:=by
  obtain ⟨F,hF,e,rfl⟩:=h
  rw [List.take_length] at e
  have e2:[]++bG [T]=[]++bG F:=by simp [cz,e]
  rcases Nat.le_total F.length 1 with h1|h1
  · obtain ⟨G0,h2,h3⟩:=fK hF (G:=[T]) (by intro x hx;simp at hx;subst hx;exact hw) (by simpa using h1) e2.symm
    have h5:=nA G0
    have h4:bG G0=[]:=by simpa using h3.symm
    rw [h4] at h5
    have:G0=[]:=List.length_eq_zero_iff.1 (by simpa using h5)
    subst this
    have h6:F=[T]:=by simpa using h2.symm
    rw [h6];rfl
  · obtain ⟨G0,h2,h3⟩:=fK (F:=[T]) (by intro x hx;simp at hx;subst hx;exact hw) hF (by simpa using h1) e2
    have h5:=nA G0
    have h4:bG G0=[]:=by simpa using h3.symm
    rw [h4] at h5
    have:G0=[]:=List.length_eq_zero_iff.1 (by simpa using h5)
    subst this
    rw [h2];rfl
theorem L9 {n:Nd} {x:Int} (h:0≤n.lo∧n.lo≤32∧(n.hi= -1∨n.lo≤n.hi∧n.hi≤32)):eB n x=if n.hi= -1 then 2+n.lo*x+x+1 else 2+n.lo*x+(n.hi-n.lo)*(x+1):=by
  unfold eB
  rcases h.2.2 with h3|⟨h3,h4⟩
  · rw [if_pos oz,if_pos h3,Int.add_mul,Int.one_mul];omega
  · rw [if_neg oz,if_neg oz,Int.mul_add,Int.sub_mul];omega
theorem ZY.at {l:List Nd} {fs:List Int} (h:ZY l fs) {j:Nat} {S:Tr} (hS:Sub l j S):fs.getD j 0=(j:Int)+1-S.flat.length:=by
  rcases h.2 j hS.2.1 with ⟨S2,h8,h9⟩|⟨h8,_⟩
  · rw [h8.uniq hS] at h9;exact h9
  · exact absurd ⟨S,hS⟩ h8
theorem fo.kids {T:Tr} (h:fo T):∀S,S∈T.kids→fo S:=by
  intro S hS
  cases T with
  | leaf n=>simp [Tr.kids] at hS
  | rep n a=>simp [Tr.kids] at hS;subst hS;exact h.rep
  | bin n a b=>simp [Tr.kids] at hS;rcases hS with rfl|rfl;exact h.oR;exact h.oQ
theorem Qj {T:Tr} (h:T.wk) (ho:fo T):∀m,m<(T.kids.map br).length→2≤(T.kids.map br).getD m 0∧(T.kids.map br).getD m 0≤1048576:=by
  intro m hm
  rw [List.getD_eq_getElem?_getD,List.getElem?_eq_getElem hm,Option.getD_some,List.getElem_map]
  exact dR _ (j6 h _ (List.getElem_mem _)) (ho.kids _ (List.getElem_mem _))
def Vp (l:List Nd) (z:Int):Prop:=(cO l=false∧z= -1)∨∃T:Tr,T.wk∧T.flat=l∧fo T∧z=br T
theorem wi.YK {l:List Nd} (hl:oy l) {k:Nat} {st:List Int} (hk:k=l.length) (h:wi l k st):st.length=1∧Vp l (st.getD 0 0):=by
  obtain ⟨_,ho,T,hw,rfl⟩:=hl
  subst hk
  have:=wi.fin hw h
  subst this
  exact ⟨rfl,.inr ⟨T,hw,rfl,ho,rfl⟩⟩
theorem q8 (l:List Int) {i:Nat} (hi:i<l.length):l.take (i+1)=l.take i++[l.getD i 0]:=by
  rw [List.take_add_one,List.getElem?_eq_getElem hi,List.getD_eq_getElem?_getD,List.getElem?_eq_getElem hi];rfl
theorem cU {st:List Int} {q:Nat} :(st.drop q).getD 0 0=st.getD q 0:=by simp [List.getD_eq_getElem?_getD]
theorem sN {a b:Int} (ha:0≤a∧a≤33) (hb:0≤b∧b≤1048577):0≤a*b∧a*b≤34603041:=by
  have h1:=Int.mul_nonneg ha.1 hb.1
  have h2:a*b≤33*1048577:=Int.mul_le_mul ha.2 hb.2 hb.1 dF
  omega
theorem LV {n:Nd} {a b:Tr} (h:n.kind=5):br (.bin n a b)=tm (br a+br b):=by simp only [br];rw [if_pos h]
theorem LU {n:Nd} {a b:Tr} (h:¬n.kind=5):br (.bin n a b)=tm (br a+br b+2):=by simp only [br];rw [if_neg h]
theorem LS {n:Nd} {a:Tr} :br (.rep n a)=tm (eB n (br a)):=rfl
theorem LQ {n:Nd} {a:Tr} {j sz:Int} (h:0≤n.lo∧n.lo≤32∧(n.hi= -1∨n.lo≤n.hi∧n.hi≤32)) (hj:n.lo≤j∧(j≤n.hi∨j=n.lo)) (he:¬j<n.hi) (hs:sz=2+n.lo*br a+(if n.hi= -1 then br a+1 else 0)+(j-n.lo)*(br a+1)):tm sz=br (.rep n a):=by
  rw [LS,L9 h,hs]
  by_cases hh:n.hi= -1
  · rw [if_pos hh,if_pos hh,show j-n.lo=0 by omega];congr 1;omega
  · rw [if_neg hh,if_neg hh,show j=n.hi by omega];congr 1;omega
theorem LI (T:Tr) (h:T.wk):(bz T).root=jb T.root:=by
  cases T with
  | leaf n=>rfl
  | rep n a=>
    have:=h.1
    have e:jb n=n:=by unfold jb;rw [if_neg oz,if_neg oz]
    exact e.symm
  | bin n a b=>
    have:=h.1
    have e:jb n=n:=by unfold jb;rw [if_neg oz,if_neg oz]
    simp only [bz]
    split<;>simp [Tr.root,e]
def kJ (T:Tr) (i:Nat):List Int:=if T.root.kind=5 then (aY T i).reverse else aY T i
theorem Fl {l:List Nd} {i m:Nat} {T:Tr} (h:Sub l i T) (hm:m<(kJ T i).length):0≤(kJ T i).getD m 0∧(kJ T i).getD m 0<(i:Int)∧∃S,Sub l ((kJ T i).getD m 0).toNat S∧(bz T).kids.take (m+1)=(bz T).kids.take m++[bz S]:=by
  cases T with
  | leaf n=>
              have:(kJ (.leaf n) i).length=0:=by unfold kJ;split<;>rfl
              omega
  | rep n a=>
    have hk:=h.1.1
    have e:kJ (.rep n a) i=[(i:Int)-1]:=by unfold kJ;rw [if_neg (by simp only [Tr.root];omega)];rfl
    rw [e] at hm ⊢
    obtain rfl:m=0:=by simpa using hm
    have hs:=h.rep
    refine ⟨by simp;omega,by simp;omega,a,?_,rfl⟩
    rw [show ([(i:Int)-1].getD 0 0).toNat=i-1 by simp];exact hs.2.1
  | bin n a b=>
    have hs:=h.bin
    by_cases hk:n.kind=5
    · have e:kJ (.bin n a b) i=[(i:Int)-1,(i:Int)-1-b.flat.length]:=by exact if_pos hk
      have et:bz (.bin n a b)= .bin n (bz b) (bz a):=by simp only [bz];rw [if_pos hk]
      rw [e] at hm ⊢;rw [et]
      rcases (by have h9:m<2:=hm;omega:m=0∨m=1) with rfl|rfl
      · refine ⟨by simp;omega,by simp;omega,b,?_,rfl⟩
        rw [show ([(i:Int)-1,(i:Int)-1-b.flat.length].getD 0 0).toNat=i-1 by simp];exact hs.2.1
      · have:=dK b
        refine ⟨by simp;omega,by simp;omega,a,?_,rfl⟩
        rw [show ([(i:Int)-1,(i:Int)-1-b.flat.length].getD 1 0).toNat=i-1-b.flat.length by (show ((i:Int)-1-b.flat.length).toNat=_;omega)];exact hs.2.2.2
    · have e:kJ (.bin n a b) i=[(i:Int)-1-b.flat.length,(i:Int)-1]:=by exact if_neg hk
      have et:bz (.bin n a b)= .bin n (bz a) (bz b):=by simp only [bz];rw [if_neg hk]
      rw [e] at hm ⊢;rw [et]
      rcases (by have h9:m<2:=hm;omega:m=0∨m=1) with rfl|rfl
      · have:=dK b
        refine ⟨by simp;omega,by simp;omega,a,?_,rfl⟩
        rw [show ([(i:Int)-1-b.flat.length,(i:Int)-1].getD 0 0).toNat=i-1-b.flat.length by (show ((i:Int)-1-b.flat.length).toNat=_;omega)];exact hs.2.2.2
      · refine ⟨by simp;omega,by simp;omega,b,?_,rfl⟩
        rw [show ([(i:Int)-1-b.flat.length,(i:Int)-1].getD 1 0).toNat=i-1 by simp];exact hs.2.1
theorem qh (T:Tr) (i:Nat):(kJ T i).length=(bz T).kids.length:=by
  unfold kJ
  cases T with
  | leaf n=>split<;>rfl
  | rep n a=>split<;>rfl
  | bin n a b=>simp only [bz];split<;>(split<;>rfl)
theorem qW (F:List Tr) (k:Nat):(bG (F.take k)).length≤(bG F).length:=by
  have h:=congrArg (fun x=>(bG x).length) (List.take_append_drop k F)
  simp only [bV,List.length_append] at h;omega
theorem BT {T:Tr} (h:T.wk):(bG (bz T).kids).length+1=T.flat.length:=by
  have:=congrArg List.length (ep (bz T))
  rw [gY] at this;simpa using this.symm
theorem AM {T S:Tr} (h:T.wk) {k:Nat} (e:(bz T).kids.take (k+1)=(bz T).kids.take k++[bz S]):(bG ((bz T).kids.take k)).length+S.flat.length<T.flat.length:=by
  have h1:=qW (bz T).kids (k+1)
  have h2:=BT h
  rw [e,bV,cz,List.length_append,gY] at h1
  omega
theorem D1 {n:Nd} {k:Int} (h:k=(jb n).kind):(⟨k,n.set,n.lo,n.hi⟩:Nd)=jb n:=by
  subst h;unfold jb;split
  · rfl
  · split<;>rfl
theorem rv (T:Tr) (i:Nat):(kJ T i).length=(aY T i).length:=by unfold kJ;split<;>simp
theorem CA (T:Tr):T.kids.length≤2:=by cases T<;>simp [Tr.kids]
theorem AD {T:Tr} (h:T.wk):(bz T).flat=bG (bz T).kids++[jb T.root]:=by rw [ep,LI T h]
def aet (l:List Nd) (o:List Nd) (e:Int):Prop:=(cO l=false∧o=[]∧e=3)∨∃T:Tr,T.wk∧T.flat=l∧fo T∧o=(bz T).flat∧e=0
def PtI (l:List Nd) (k:Nat) (ps:List (LR Nd)):Prop:=ps.length=k∧∀j,j<k→∃S,Sub l j S∧(ps.getD j ai).xs=(bz S).flat
theorem PtI.at {l:List Nd} {k:Nat} {ps:List (LR Nd)} (h:PtI l k ps) {j:Nat} {S:Tr} (hj:j<k) (hS:Sub l j S):(ps.getD j ai).xs=(bz S).flat:=by
  obtain ⟨S2,h2,e⟩:=h.2 j hj
  rw [h2.uniq hS] at e;exact e
theorem PtI.push {l:List Nd} {k:Nat} {ps:List (LR Nd)} (h:PtI l k ps) {S:Tr} (hS:Sub l k S) {r:LR Nd} (e:r.xs=(bz S).flat):PtI l (k+1) (ps++[r]):=by
  refine ⟨by simp [h.1],fun j hj=>?_⟩
  by_cases hjk:j=k
  · subst hjk
    refine ⟨S,hS,?_⟩
    rw [List.getD_eq_getElem?_getD,List.getElem?_append_right (by rw [h.1];exact Nat.le_refl _),h.1];simpa using e
  · rw [List.getD_eq_getElem?_getD,List.getElem?_append_left (by rw [h.1];omega),←List.getD_eq_getElem?_getD]
    exact h.2 j oz
theorem Om {n:Nd} {a b:Tr} (h:n.kind=5):bG (bz (.bin n a b)).kids=(bz b).flat++(bz a).flat:=by
  simp only [bz];rw [if_pos h];simp [bG,Tr.kids]
theorem LJ {l:List Nd} {i m:Nat} {T:Tr} (h:Sub l i T) (hk:¬(l.getD i cb).kind=5) (hm:m<(aY T i).length):0≤(aY T i).getD m 0∧(aY T i).getD m 0<(i:Int)∧∃S,Sub l ((aY T i).getD m 0).toNat S∧(bz T).kids.take (m+1)=(bz T).kids.take m++[bz S]:=by
  have e:kJ T i=aY T i:=if_neg (by rw [←h.root.1];exact hk)
  have:=Fl h (m:=m) (by rw [e];exact hm)
  rw [e] at this;exact this
def mA (l:List Nat):List Int:=l.map fun x=>((x:Nat):Int)
theorem sL (l:List Nat):(mA l).length=l.length:=by simp [mA]
theorem yg (l:List Nat) (j:Nat):(mA l).getD j 0=((l.getD j 0:Nat):Int):=by
  unfold mA
  simp only [List.getD_eq_getElem?_getD,List.getElem?_map]
  rcases l[j]? with _|x<;>rfl
theorem sM (l m:List Nat):mA (l++m)=mA l++mA m:=by simp [mA]
theorem TP (o:List ay) (t:ay) (v:Int):dv ((o++[t])++[emp]) o.length v=o++[{ t with a:=v },emp]:=by
  unfold dv
  rw [List.append_assoc]
  have e:(o++([t]++[emp])).getD o.length aq=t:=by simp [List.getD_eq_getElem?_getD]
  rw [e];simp
theorem wE {n:Nd} {o:List ay} {t:ay} (h:t.kind=(iC n 0).kind) (hb:t.b=0) (hs:t.set=n.set):ao (.leaf n) o=⟨dv ((o++[t])++[emp]) o.length (((o++[t]).length:Nat):Int),o.length,(o++[t]).length⟩:=by
  rw [TP,show (o++[t]).length=o.length+1 by simp]
  simp only [ao]
  have e:iC n (((o.length:Nat):Int)+1)= { t with a:=((o.length+1:Nat):Int) } :=by
    obtain ⟨k,a,b,s⟩:=t
    simp only at h hb hs
    subst h;subst hb;subst hs
    rfl
  rw [e]
theorem Il {n:Nd} {a b:Tr} {o:List ay} (h:n.kind=5):ao (.bin n a b) o=⟨dv (ao b (ao a o).s).s (ao a o).last ((ao b (ao a o).s).first:Nat),(ao a o).first,(ao b (ao a o).s).last⟩:=by
  simp only [ao];rw [if_pos h]
theorem P5 {n:Nd} {a b:Tr} {o:List ay} (h:¬n.kind=5) {y:List ay} (hy:y=(ao b (ao a o).s).s):
    ao (.bin n a b) o=⟨dv (dv ((y++[(⟨3,((ao a o).first:Nat),((ao b (ao a o).s).first:Nat),Bs.zero⟩:ay)])++[emp]) (ao a o).last (((y++[(⟨3,((ao a o).first:Nat),((ao b (ao a o).s).first:Nat),Bs.zero⟩:ay)]).length:Nat):Int)) (ao b (ao a o).s).last (((y++[(⟨3,((ao a o).first:Nat),((ao b (ao a o).s).first:Nat),Bs.zero⟩:ay)]).length:Nat):Int),y.length,(y++[(⟨3,((ao a o).first:Nat),((ao b (ao a o).s).first:Nat),Bs.zero⟩:ay)]).length⟩:=by
  rw [show (y++[(⟨3,((ao a o).first:Nat),((ao b (ao a o).s).first:Nat),Bs.zero⟩:ay)]).length=y.length+1 by simp]
  simp only [ao];rw [if_neg h,hy,List.append_assoc];rfl
theorem KC {f:List ay→Pt} {k ah:Nat} {x:List ay×Nat} {q:List ay} (h:fe f k x=(q,ah)):fe f (k+1) x=(dv (f q).s ah ((f q).first:Nat),(f q).last):=by simp only [fe,h]
theorem KD {f:List ay→Pt} {z k ah lo:Nat} {o q:List ay} (hf:Mk f z) (h:fe f k (o++[emp],o.length)=(q,ah)) (hk:k≤lo):o.length≤ah∧ah<q.length∧q.length=o.length+1+k*z∧k*z≤lo*z∧(k<lo→k*z+z≤lo*z):=by
  have h1:=qf hf (o++[emp],o.length) k
  have h2:=nT hf (x:=(o++[emp],o.length)) (n:=o.length) (Nat.le_refl _) (by simp) k
  rw [h] at h1 h2
  simp only [List.length_append,List.length_singleton] at h1
  refine ⟨h2.1,h2.2.1,h1,Nat.mul_le_mul_right _ hk,fun h9=>?_⟩
  have:=Nat.mul_le_mul_right z (show k+1≤lo from h9)
  rw [Nat.succ_mul] at this;exact this
theorem KS {f:List ay→Pt} {j fm:Nat} {x:List ay×Nat} {q2:List ay} {sp:List Nat} (h:dr f j x=(q2,fm,sp)):dr f (j+1) x=(dv ((f q2).s++[⟨3,((f q2).first:Nat),0,Bs.zero⟩]) fm ((f q2).s.length:Nat),(f q2).last,sp++[(f q2).s.length]):=by simp only [dr,h]
theorem wK {f:List ay→Pt} {z j ah fm d:Nat} {q q2:List ay} {sp:List Nat} (hf:Mk f z) (hq:ah<q.length) (h:dr f j (q,ah)=(q2,fm,sp)) (hj:j≤d):fm<q2.length∧q2.length=q.length+j*(z+1)∧(∀i,i∈sp→i<q2.length)∧sp.length=j∧j*(z+1)≤d*(z+1)∧(j<d→j*(z+1)+z+1≤d*(z+1)):=by
  have h1:=l8 hf (q,ah) j
  have h2:=nX hf (x:=(q,ah)) (n:=0) (Nat.zero_le _) hq j
  rw [h] at h1 h2
  refine ⟨h2.2.1,h1,fun i hi=>(h2.2.2.1 i hi).2,h2.2.2.2.1,Nat.mul_le_mul_right _ hj,fun h9=>?_⟩
  have:=Nat.mul_le_mul_right (z+1) (show j+1≤d from h9)
  rw [Nat.succ_mul] at this;omega
def NF (f:List ay→Pt) (n:Nd) (o q:List ay) (sI:List Int) (Qe:Nat):Prop:=
  ∃sp:List Nat,sI=mA sp∧(∀i,i∈sp→i<q.length)∧fO f n o=⟨fq q sp ((Qe:Nat):Int),o.length,Qe⟩
theorem Ey {f:List ay→Pt} {n:Nd} {o q:List ay} {ah z:Nat} (hf:Mk f z) (hh:n.hi<0) (hr:fe f n.lo.toNat (o++[emp],o.length)=(q,ah)) {u:List ay} (hu:u=dv ((f q).s++[⟨3,((f q).first:Nat),0,Bs.zero⟩]) ah ((f q).s.length:Nat)):
    NF f n o (dv (u++[emp]) (f q).last ((f q).s.length:Nat)) ([]++[(((f q).s.length:Nat):Int)]) u.length:=by
  refine ⟨[(f q).s.length],rfl,fun i hi=>?_,?_⟩
  · simp only [List.mem_singleton] at hi
    subst hi
    rw [cC,List.length_append,hu,cC,List.length_append];simp;omega
  · unfold fO
    simp only
    rw [if_pos hh,hr]
    simp only [dr,List.nil_append,List.getD_cons_zero]
    rw [hu]
theorem xP {f:List ay→Pt} {n:Nd} {o q q2:List ay} {ah fm z:Nat} {sp:List Nat} {sI:List Int} (hf:Mk f z) (hh:¬n.hi<0) (hr:fe f n.lo.toNat (o++[emp],o.length)=(q,ah)) (hq:ah<q.length) (iK:dr f (n.hi-n.lo).toNat (q,ah)=(q2,fm,sp)) (hs:sI=mA sp):
    NF f n o (dv (q2++[emp]) fm ((q2.length:Nat):Int)) sI q2.length:=by
  have h2:=wK hf hq iK (Nat.le_refl _)
  refine ⟨sp,hs,fun i hi=>?_,?_⟩
  · have:=h2.2.2.1 i hi
    rw [cC,List.length_append];omega
  · unfold fO
    simp only
    rw [if_neg hh,hr,iK]
theorem Hh (s:List ay) (l:List Nat) (i:Nat) (v:Int):fq s (l++[i]) v=sj (fq s l v) i v:=by simp [fq]
theorem xz {s:List ay} {l:List Nat} {j:Nat} (v:Int) (h:j<l.length):fq s (l.take (j+1)) v=sj (fq s (l.take j) v) (l.getD j 0) v:=by
  have e:l.take (j+1)=l.take j++[l.getD j 0]:=by
    rw [List.take_add_one,List.getElem?_eq_getElem h,List.getD_eq_getElem?_getD,List.getElem?_eq_getElem h];rfl
  rw [e,Hh]
theorem P4 (n:Nd) (a:Tr) (o:List ay):ao (.rep n a) o=fO (ao a) n o:=rfl
theorem tP (n:Nd) (a:Tr):aQ (.rep n a)=2+n.lo.toNat*aQ a+(if n.hi<0 then aQ a+1 else (n.hi-n.lo).toNat*(aQ a+1)):=rfl
theorem xx {n:Nd} {a b:Tr} (h:n.kind=5):aQ (.bin n a b)=aQ a+aQ b:=if_pos h
theorem xw {n:Nd} {a b:Tr} (h:¬n.kind=5):aQ (.bin n a b)=aQ a+aQ b+2:=if_neg h
theorem P6 {n:Nd} {o:List ay} {t:ay} (h:t=iC n (((o.length:Nat):Int)+1)):ao (.leaf n) o=⟨(o++[t])++[emp],o.length,(o++[t]).length⟩:=by
  rw [List.append_assoc,show (o++[t]).length=o.length+1 by simp,h];rfl
def ji (n:Nd):Nat:=if n.hi= -1 then 1 else (n.hi-n.lo).toNat
theorem sr (n:Nd):(n.hi= -1∧ji n=1)∨(n.hi≠ -1∧ji n=(n.hi-n.lo).toNat):=by
  unfold ji
  by_cases h:n.hi= -1
  · exact .inl ⟨h,if_pos h⟩
  · exact .inr ⟨h,if_neg h⟩
theorem Hi (s:List ay) (i:Nat) (v v':Int):dv (dv s i v) i v'=dv s i v':=by
  unfold dv
  rw [List.set_set]
  by_cases h:i<s.length
  · congr 2
    simp [List.getD_eq_getElem?_getD,h]
  · rw [List.set_eq_of_length_le oz,List.set_eq_of_length_le oz]
theorem EB {f:List ay→Pt} {n:Nd} {o q q2:List ay} {ah fm z:Nat} {sp:List Nat} {sI:List Int} (hf:Mk f z) (hh:n.hi= -1) (hr:fe f n.lo.toNat (o++[emp],o.length)=(q,ah)) (hq:ah<q.length) (iK:dr f (ji n) (q,ah)=(q2,fm,sp)) (hs:sI=mA sp):
    NF f n o (dv (dv (q2++[emp]) fm ((q2.length:Nat):Int)) fm (sI.getD 0 0)) sI q2.length:=by
  have ht:ji n=1:=if_pos hh
  rw [ht] at iK
  have h2:=wK hf hq iK (Nat.le_refl _)
  refine ⟨sp,hs,fun i hi=>?_,?_⟩
  · have:=h2.2.2.1 i hi
    rw [cC,cC,List.length_append];omega
  · unfold fO
    simp only
    rw [if_pos oz,hr,iK,Hi,hs,yg]
theorem EA {f:List ay→Pt} {n:Nd} {o q q2:List ay} {ah fm z:Nat} {sp:List Nat} {sI:List Int} (hf:Mk f z) (hn:n.hi= -1∨n.lo≤n.hi) (hl:0≤n.lo) (hh:¬n.hi= -1) (hr:fe f n.lo.toNat (o++[emp],o.length)=(q,ah)) (hq:ah<q.length) (iK:dr f (ji n) (q,ah)=(q2,fm,sp)) (hs:sI=mA sp):
    NF f n o (dv (q2++[emp]) fm ((q2.length:Nat):Int)) sI q2.length:=by
  have ht:ji n=(n.hi-n.lo).toNat:=if_neg hh
  rw [ht] at iK
  exact xP hf oz hr hq iK hs
def n8:ay:=⟨6,0,0,Bs.zero⟩
def oB (l:List Nd) (st:List ay) (s0 f0 er:Int):Prop:=
  (cO l=false∧st=[]∧s0=0∧f0=0∧er=3)∨
  ∃T:Tr,T.wk∧T.flat=l∧fo T∧((br T>600∧st=[]∧s0=0∧f0=0∧er=4)∨
    (br T≤600∧st=(ao T []).s.set (ao T []).last n8∧s0=((ao T []).first:Nat)∧f0=((ao T []).last:Nat)∧er=0))
theorem yJ {T T':Tr} (h:T.wk) (h':T'.wk) (e:T.flat=T'.flat):T=T':=by
  have h1:=Sub.self h
  have h2:=Sub.self h'
  rw [←e] at h2
  exact h1.uniq h2
theorem q7 {T:Tr} (h:T.wk) (ho:fo T) (hl:T.flat.length≤512):cO T.flat=true:=fi.2 ⟨hl,ho,T,h,rfl⟩
theorem P1 {l m:List Nat} (h:mA l=mA m):l=m:=by
  unfold mA at h
  exact (List.map_inj_right (fun x y e=>by have e9:((x:Nat):Int)=((y:Nat):Int):=e;omega)).1 h
theorem AR (n:Nd) (a b:Tr):aQ a+aQ b≤aQ (.bin n a b)∧(¬n.kind=5→aQ a+aQ b+2≤aQ (.bin n a b)):=by
  by_cases h:n.kind=5
  · rw [xx h];exact ⟨Nat.le_refl _,fun h9=>absurd h h9⟩
  · rw [xw h];exact ⟨by omega,fun _=>Nat.le_refl _⟩
theorem AQ:∀T:Tr,2≤aQ T
  | .leaf _=>Nat.le_refl _
  | .rep n a=>by rw [tP];omega
  | .bin n a b=>by have:=AQ a;have:=(AR n a b).1;omega
theorem MD {l:List Nd} {i:Nat} {T:Tr} (h:Sub l i T):((aY T i).length=0→¬(l.getD i cb).kind=5∧¬(l.getD i cb).kind=6∧¬(l.getD i cb).kind=7)∧(¬(aY T i).length=0→(l.getD i cb).kind=5∨(l.getD i cb).kind=6∨(l.getD i cb).kind=7):=by
  have hr:=h.root.1
  have hw:=h.1
  rw [hr]
  cases T with
  | leaf n=>exact ⟨fun _=>by simp only [Tr.wk,Tr.root] at*;omega,fun h9=>absurd rfl h9⟩
  | rep n a=>exact ⟨fun h9=>by simp [aY] at h9,fun _=>by simp only [Tr.wk,Tr.root] at*;omega⟩
  | bin n a b=>exact ⟨fun h9=>by simp [aY] at h9,fun _=>by simp only [Tr.wk,Tr.root] at*;omega⟩
theorem R4 {l:List Nd} {z:Int} (h:Vp l z) (hz:z<0):oB l [] 0 0 3:=by
  rcases h with ⟨h1,h2⟩|⟨T,h1,h2,h3,h4⟩
  · exact .inl ⟨h1,rfl,rfl,rfl,rfl⟩
  · have:=dR T h1 h3;omega
theorem R3 {l:List Nd} {z:Int} (h:Vp l z) (hz:z>600):oB l [] 0 0 4:=by
  rcases h with ⟨h1,h2⟩|⟨T,h1,h2,h3,h4⟩
  · omega
  · exact .inr ⟨T,h1,h2,h3,.inl ⟨by omega,rfl,rfl,rfl,rfl⟩⟩
theorem oB.uniq {l:List Nd} {st st':List ay} {s0 s0' f0 f0' er er':Int} (h:oB l st s0 f0 er) (h':oB l st' s0' f0' er') (hl:l.length≤512):st=st'∧s0=s0'∧f0=f0'∧er=er':=by
  rcases h with ⟨h1,rfl,rfl,rfl,rfl⟩|⟨T,h1,h2,h3,h4⟩<;>rcases h' with ⟨wP,rfl,rfl,rfl,rfl⟩|⟨T',wP,wO,Uq,SO⟩
  · exact ⟨rfl,rfl,rfl,rfl⟩
  · have:=q7 wP Uq (by rw [wO];exact hl);rw [wO,h1] at this;cases this
  · have:=q7 h1 h3 (by rw [h2];exact hl);rw [h2,wP] at this;cases this
  · have e:=yJ h1 wP (h2.trans wO.symm);subst e
    rcases h4 with ⟨q,rfl,rfl,rfl,rfl⟩|⟨q,rfl,rfl,rfl,rfl⟩<;>rcases SO with ⟨q',rfl,rfl,rfl,rfl⟩|⟨q',rfl,rfl,rfl,rfl⟩<;>first|exact ⟨rfl,rfl,rfl,rfl⟩|omega
def aez (s:ay) (m:Int):Prop:=1≤s.kind∧s.kind≤6∧(s.kind≠1→s.set=Bs.zero)∧(s.kind≠3→s.b=0)∧(s.kind=6→s.a=0)∧0≤s.a∧s.a<m∧0≤s.b∧s.b<m
structure oU (st:List ay) (s0 f0:Int):Prop where
  len:st.length≤600
  s:0≤s0∧s0<st.length
  f:0≤f0∧f0<st.length
  IQ:∀i,i<st.length→aez (st.getD i aq) st.length∧((st.getD i aq).kind=6↔(i:Int)=f0)
def goN (sym:Int) (s:ay):Bool:=decide (s.kind=2∨s.kind=4∧(sym=256∨sym=258)∨s.kind=5∧(sym=257∨sym=258))
def vV (st:List ay) (sym:Int) (x:Int):List Int:=
  if (st.getD x.toNat aq).kind=3 then [(st.getD x.toNat aq).b,(st.getD x.toNat aq).a] else if goN sym (st.getD x.toNat aq)=true then [(st.getD x.toNat aq).a] else []
theorem p7 {st:List ay} {sym x:Int} (h:(st.getD x.toNat aq).kind=3):vV st sym x=[(st.getD x.toNat aq).b,(st.getD x.toNat aq).a]:=if_pos h
theorem Ch {st:List ay} {sym x:Int} (h:¬(st.getD x.toNat aq).kind=3) (hg:goN sym (st.getD x.toNat aq)=true):vV st sym x=[(st.getD x.toNat aq).a]:=by unfold vV;rw [if_neg h,if_pos hg]
theorem sB {st:List ay} {sym x:Int} (h:¬(st.getD x.toNat aq).kind=3) (hg:¬goN sym (st.getD x.toNat aq)=true):vV st sym x=[]:=by unfold vV;rw [if_neg h,if_neg hg]
theorem kN {st:List ay} {s0 f0 sym x:Int} (h:oU st s0 f0) (hx:0≤x∧x<st.length):∀t,t∈vV st sym x→0≤t∧t<(st.length:Int):=by
  have hf:=(h.IQ x.toNat oz).1
  obtain ⟨_,_,_,_,_,h1,h2,h3,h4⟩:=hf
  intro t ht
  unfold vV at ht
  split at ht
  · simp only [List.mem_cons,List.not_mem_nil,or_false] at ht;omega
  · split at ht
    · simp only [List.mem_singleton] at ht;omega
    · cases ht
def gg (o:List Bool) (x:Int):List Bool:=if o.getD x.toNat false=true then o else o.set x.toNat true
def gB (o:List Bool) (td:List Int) (x:Int):List Int:=if o.getD x.toNat false=true then td else td++[x]
theorem su (o:List Bool) (x:Int):(gg o x).length=o.length:=by unfold gg;split<;>simp
theorem B6 {o:List Bool} {x:Int} (td:List Int) (hx:x.toNat<o.length):2*cf (gg o x)+(gB o td x).length≤2*cf o+td.length:=by
  unfold gg gB
  by_cases h:o.getD x.toNat false=true
  · rw [if_pos h,if_pos h];exact Nat.le_refl _
  · rw [if_neg h,if_neg h]
    have:=C6 o x.toNat hx (by simpa using h)
    rw [List.length_append,List.length_singleton];omega
theorem Ke {o:List Bool} {x:Int} (hx:x.toNat<o.length):(gg o x).getD x.toNat false=true:=by
  unfold gg
  by_cases h:o.getD x.toNat false=true
  · rw [if_pos h];exact h
  · rw [if_neg h];simp [List.getD_eq_getElem?_getD,hx]
theorem tZ {o:List Bool} {x:Int} {j:Nat} (h:o.getD j false=true):(gg o x).getD j false=true:=by
  unfold gg
  by_cases hx:o.getD x.toNat false=true
  · rw [if_pos hx];exact h
  · rw [if_neg hx]
    have hj:j<o.length:=by
      rcases Nat.lt_or_ge j o.length with h1|h1
      · exact h1
      · rw [List.getD_eq_getElem?_getD,List.getElem?_eq_none h1] at h;cases h
    rw [List.getD_eq_getElem?_getD,List.getElem?_set]
    split
    · simp_all
    · rw [←List.getD_eq_getElem?_getD];exact h
theorem EF {o:List Bool} {x:Int} {j:Nat} (h:(gg o x).getD j false=true):o.getD j false=true∨j=x.toNat:=by
  unfold gg at h
  by_cases hx:o.getD x.toNat false=true
  · rw [if_pos hx] at h;exact .inl h
  · rw [if_neg hx,List.getD_eq_getElem?_getD,List.getElem?_set] at h
    split at h
    · right;omega
    · rw [←List.getD_eq_getElem?_getD] at h;exact .inl h
structure Dv (n:Nat) (t0:List Int) (o:List Bool) (td:List Int) (k:Nat):Prop where
  len:o.length=n
  init:∀i,i<k→o.getD (t0.getD i 0).toNat false=true
  CE:∀t,t∈td→(0≤t∧t<(n:Int))∧o.getD t.toNat false=true
  jZ:∀r:Nat,o.getD r false=true→(r:Int)∈td
  min:∀Q:Int→Prop,(∀t,t∈t0→Q t)→∀s:Nat,o.getD s false=true→Q s
theorem Dv.start (n:Nat) (t0:List Int):Dv n t0 (List.replicate n false) [] 0:=by
  have no:∀r:Nat,¬(List.replicate n false).getD r false=true:=fun r h=>by
    rw [List.getD_eq_getElem?_getD,List.getElem?_replicate] at h
    split at h<;>simp at h
  exact ⟨by simp,fun i h=>by omega,fun t h=>by (cases h),fun r h=>absurd h (no r),fun Q _ s h=>absurd h (no s)⟩
theorem Dv.put {n k:Nat} {t0 td:List Int} {o:List Bool} (h:Dv n t0 o td k) (hk:k<t0.length) (hr:∀t,t∈t0→0≤t∧t<(n:Int)):Dv n t0 (gg o (t0.getD k 0)) (gB o td (t0.getD k 0)) (k+1):=by
  have hm:t0.getD k 0∈t0:=au hk
  have hb:=hr _ hm
  have T5:(t0.getD k 0).toNat<o.length:=by rw [h.len];omega
  refine ⟨(su _ _).trans h.len,fun i hi=>?_,fun t ht=>?_,fun r iK=>?_,fun Q hQ s hs=>?_⟩
  · rcases Nat.lt_or_ge i k with h1|h1
    · exact tZ (h.init i h1)
    · obtain rfl:i=k:=by omega
      exact Ke T5
  · unfold gB at ht
    by_cases hx:o.getD (t0.getD k 0).toNat false=true
    · rw [if_pos hx] at ht;exact ⟨(h.CE t ht).1,tZ (h.CE t ht).2⟩
    · rw [if_neg hx] at ht
      rcases List.mem_append.1 ht with h1|h1
      · exact ⟨(h.CE t h1).1,tZ (h.CE t h1).2⟩
      · simp only [List.mem_singleton] at h1;subst h1;exact ⟨hb,Ke T5⟩
  · unfold gB
    by_cases hx:o.getD (t0.getD k 0).toNat false=true
    · rw [if_pos hx];unfold gg at iK;rw [if_pos hx] at iK;exact h.jZ r iK
    · rw [if_neg hx]
      rcases EF iK with h1|h1
      · exact List.mem_append_left _ (h.jZ r h1)
      · refine List.mem_append_right _ (List.mem_singleton.2 ?_);omega
  · rcases EF hs with h1|h1
    · exact h.min Q hQ s h1
    · have e:((s:Nat):Int)=t0.getD k 0:=by omega
      rw [e];exact hQ _ hm
theorem Dv.done {nx:Int→List Int} {n k:Nat} {t0 td:List Int} {o:List Bool} (h:Dv n t0 o td k) (hk:¬k<t0.length):wg nx n t0 o td:=
  ⟨h.len,fun t ht=>by
    obtain ⟨i,hi,rfl⟩:=List.mem_iff_getElem.1 ht
    have:=h.init i oz
    have e:t0.getD i 0=t0[i]:=by rw [List.getD_eq_getElem?_getD,List.getElem?_eq_getElem hi];rfl
    rw [e] at this;exact this,h.CE,fun r hr=> .inl (h.jZ r hr),fun Q hQ _ s hs=>h.min Q hQ s hs⟩
section
variable {nx:Int→List Int} {n:Nat} {t0 td:List Int} {o:List Bool} {s:Int} {k:Nat}
theorem qM.put (h:qM nx n t0 o td s k) {x:Int} (hk:k<(nx s).length) (e:(nx s).getD k 0=x) (hb:0≤x∧x<(n:Int)):qM nx n t0 (gg o x) (gB o td x) s (k+1):=by
  subst e
  unfold gg gB
  by_cases hx:o.getD ((nx s).getD k 0).toNat false=true
  · rw [if_pos hx,if_pos hx];exact h.vk hk hx
  · rw [if_neg hx,if_neg hx];exact h.new hk hb
theorem xu (h:qM nx n t0 o td s 0) (e:nx s=[]):wg nx n t0 o td:=h.done (by rw [e];simp)
theorem BZ (h:qM nx n t0 o td s 0) {x:Int} (e:nx s=[x]) (hr:∀t,t∈nx s→0≤t∧t<(n:Int)):wg nx n t0 (gg o x) (gB o td x):=
  (h.put (x:=x) (by rw [e];simp) (by rw [e];rfl) (hr x (by rw [e];simp))).done (by rw [e];simp)
theorem BY (h:qM nx n t0 o td s 0) {x y:Int} (e:nx s=[x,y]) (hr:∀t,t∈nx s→0≤t∧t<(n:Int)):wg nx n t0 (gg (gg o x) y) (gB (gg o x) (gB o td x) y):=
  ((h.put (x:=x) (by rw [e];simp) (by rw [e];rfl) (hr x (by rw [e];simp))).put (x:=y) (by rw [e];simp) (by rw [e];rfl) (hr y (by rw [e];simp))).done (by rw [e];simp)
end
theorem uQ.uniq {nx:Int→List Int} {n:Nat} {t0 t1:List Int} {o o':List Bool} (h:uQ nx n t0 o) (h':uQ nx n t1 o') (hm:∀t,t∈t0↔t∈t1) (hr:∀t,t∈t0→0≤t) (hn:∀s:Int,0≤s→s<(n:Int)→∀t,t∈nx s→0≤t):o=o':=by
  have key:∀ {t0 t1:List Int} {o o':List Bool},uQ nx n t0 o→uQ nx n t1 o'→(∀t,t∈t0→t∈t1)→(∀t,t∈t0→0≤t)→∀s:Nat,o.getD s false=true→o'.getD s false=true:=fun {t0 t1 o o'} h h' hm hr s hs=>by
    have hb:∀r:Nat,o'.getD r false=true→r<n:=fun r iK=>by
      rcases Nat.lt_or_ge r n with h1|h1
      · exact h1
      · rw [List.getD_eq_getElem?_getD,List.getElem?_eq_none (by rw [h'.len];exact h1)] at iK;cases iK
    have:=h.min (fun x=>0≤x∧o'.getD x.toNat false=true) (fun t ht=>⟨hr t ht,h'.init t (hm t ht)⟩) (fun x hx t ht=>by
      have hxn:=hb _ hx.2
      refine ⟨hn x hx.1 oz t ht,h'.jZ x.toNat hx.2 t ?_⟩
      rw [Int.toNat_of_nonneg hx.1];exact ht) s hs
    simpa using this.2
  apply List.ext_getElem?
  intro i
  rcases Nat.lt_or_ge i n with hi|hi
  · have a:=key h h' (fun t=>(hm t).1) hr i
    have b:=key h' h (fun t=>(hm t).2) (fun t ht=>hr t ((hm t).2 ht)) i
    have e1:i<o.length:=by rw [h.len];exact hi
    have e2:i<o'.length:=by rw [h'.len];exact hi
    have x1:o.getD i false=o[i]:=by rw [List.getD_eq_getElem?_getD,List.getElem?_eq_getElem e1];rfl
    have x2:o'.getD i false=o'[i]:=by rw [List.getD_eq_getElem?_getD,List.getElem?_eq_getElem e2];rfl
    rw [x1,x2] at a b
    rw [List.getElem?_eq_getElem e1,List.getElem?_eq_getElem e2]
    rcases h1:o[i] with _|_<;>rcases h2:o'[i] with _|_<;>simp_all
  · rw [List.getElem?_eq_none (by rw [h.len];exact hi),List.getElem?_eq_none (by rw [h'.len];exact hi)]
def cF (o:List Bool):List Int:=mA ((List.range o.length).filter fun i=>o.getD i false)
def sO (o:List Bool) (k:Nat):List Int:=mA ((List.range k).filter fun i=>o.getD i false)
theorem Kz {o:List Bool} {k:Nat} (h:o.getD k false=true):sO o (k+1)=sO o k++[(k:Int)]:=by
  unfold sO;rw [List.range_succ,List.filter_append,sM];simp only [List.filter_cons,h,List.filter_nil,if_true];rfl
theorem Qc {o:List Bool} {k:Nat} (h:¬o.getD k false=true):sO o (k+1)=sO o k:=by
  unfold sO;rw [List.range_succ,List.filter_append,sM];simp only [List.filter_cons,h,List.filter_nil];simp [mA]
theorem KA (o:List Bool) (k:Nat):(sO o k).length≤k:=by
  unfold sO;rw [sL]
  have:=List.length_filter_le (fun i=>o.getD i false) (List.range k)
  rw [List.length_range] at this;exact this
theorem gG {o:List Bool} {x:Int} :x∈cF o↔∃i:Nat,x=(i:Int)∧o.getD i false=true:=by
  unfold cF mA
  simp only [List.mem_map,List.mem_filter,List.mem_range]
  constructor
  · rintro ⟨i,⟨h1,h2⟩,rfl⟩;exact ⟨i,rfl,h2⟩
  · rintro ⟨i,rfl,h2⟩
    refine ⟨i,⟨?_,h2⟩,rfl⟩
    rcases Nat.lt_or_ge i o.length with h1|h1
    · exact h1
    · rw [List.getD_eq_getElem?_getD,List.getElem?_eq_none h1] at h2;cases h2
theorem lF {o:List Bool} {x:Int} (h:x∈cF o):0≤x∧x<(o.length:Int):=by
  obtain ⟨i,rfl,h2⟩:=gG.1 h
  rcases Nat.lt_or_ge i o.length with h1|h1
  · omega
  · rw [List.getD_eq_getElem?_getD,List.getElem?_eq_none h1] at h2;cases h2
theorem lG (o:List Bool):(cF o).length≤o.length:=KA o o.length
def je (st:List ay) (b:Nat) (x:Int):Bool:=decide ((st.getD x.toNat aq).kind=1)&&(st.getD x.toNat aq).set.has b
def ef (st:List ay) (fr:List Int) (b:Nat):List Int:=(fr.filter (je st b)).map fun x=>(st.getD x.toNat aq).a
theorem AN {st:List ay} {fr:List Int} {b k:Nat} (hk:k<fr.length) (h:je st b (fr.getD k 0)=true):ef st (fr.take (k+1)) b=ef st (fr.take k) b++[(st.getD (fr.getD k 0).toNat aq).a]:=by
  unfold ef
  rw [q8 fr hk,List.filter_append,List.map_append];simp only [List.filter_cons,h,List.filter_nil,if_true];rfl
theorem Ee {st:List ay} {fr:List Int} {b k:Nat} (hk:k<fr.length) (h:¬je st b (fr.getD k 0)=true):ef st (fr.take (k+1)) b=ef st (fr.take k) b:=by
  unfold ef
  rw [q8 fr hk,List.filter_append,List.map_append];simp only [List.filter_cons,h,List.filter_nil];simp
theorem AO (st:List ay) (fr:List Int) (b:Nat):(ef st fr b).length≤fr.length:=by
  unfold ef;rw [List.length_map];exact List.length_filter_le _ _
theorem pV {st:List ay} {s0 f0:Int} {fr:List Int} {b:Nat} (h:oU st s0 f0) (hr:∀t,t∈fr→0≤t∧t<(st.length:Int)):∀t,t∈ef st fr b→0≤t∧t<(st.length:Int):=by
  intro t ht
  unfold ef at ht
  obtain ⟨x,hx,rfl⟩:=List.mem_map.1 ht
  have NO:=hr x (List.mem_filter.1 hx).1
  have hf:=(h.IQ x.toNat oz).1
  exact ⟨hf.2.2.2.2.2.1,hf.2.2.2.2.2.2.1⟩
def oT (st:List ay) (fr:List Int) (sym:Int) (o:List Bool):Prop:=uQ (vV st sym) st.length fr o
theorem oT.uniq {st:List ay} {s0 f0 sym:Int} {fr fr':List Int} {o o':List Bool} (hN:oU st s0 f0) (h:oT st fr sym o) (h':oT st fr' sym o') (hm:∀t,t∈fr↔t∈fr') (hr:∀t,t∈fr→0≤t):o=o':=
  uQ.uniq h h' hm hr (fun s h0 h1 t ht=>(kN hN ⟨h0,h1⟩ t ht).1)
inductive To (d:ar):Int→Int→Prop
  | refl (s:Int):To d s s
  | step {s u t:Int} :u∈Kr d s→To d u t→To d s t
theorem To.trans {d:ar} {a b c:Int} (h:To d a b) (k:To d b c):To d a c:=by
  induction h with
  | refl s=>exact k
  | step hu _ ih=>exact .step hu (ih k)
theorem To.snoc {d:ar} {a b c:Int} (h:To d a b) (k:c∈Kr d b):To d a c:=h.trans (.step k (.refl c))
theorem eN {ps:List (LR Int)} {q t:Nat} {p:LR Int} (hq:q<ps.length):(ps.set q p).getD t ai=if q=t then p else ps.getD t ai:=by
  simp only [List.getD_eq_getElem?_getD,List.getElem?_set]
  split
  · rename_i e;subst e;simp [hq]
  · rfl
def Sl (d:ar) (o:List Bool):Prop:=(aN d=false→o=[])∧(aN d=true→o.length=d.acc.length∧∀s:Nat,s<d.acc.length→(o.getD s false=true↔To d d.start s))
theorem O8 {d:ar} {o:List Bool} (hr:aN d=true) (hs:uQ (Kr d) d.acc.length [d.start] o):Sl d o:=by
  have wH:=bo.1 hr
  refine ⟨fun h=>(by rw [hr] at h;cases h),fun _=>⟨hs.len,fun s hsl=>⟨fun ho=>?_,fun ht=>?_⟩⟩⟩
  · exact hs.min (fun x=>To d d.start x) (fun t ht=>by simp only [List.mem_singleton] at ht;subst ht;exact .refl _) (fun x hx t ht=>hx.snoc ht) s ho
  · have key:∀a b:Int,To d a b→0≤a∧a<(d.acc.length:Int)→o.getD a.toNat false=true→o.getD b.toNat false=true:=by
      intro a b NZ
      induction NZ with
      | refl s=>intro _ h;exact h
      | @step a u t hu _ ih=>
        intro ha h
        have hub:=HY hr ha.1 ha.2 hu
        refine ih hub (hs.jZ a.toNat h u ?_)
        rw [Int.toNat_of_nonneg ha.1];exact hu
    have:=key _ _ ht ⟨wH.1.2.2.2.2.2.2.1,wH.1.2.2.2.2.2.2.2⟩ (hs.init _ (by simp))
    simpa using this
def bx (X:List (LR Bool)) (r c:Nat):Bool:=(X.getD r ai).xs.getD c false
theorem Kq {d:ar} {s t:Int} :t∈Kr d s↔∃i,i<d.cls.length∧d.next.getD (s*d.width+d.cls.getD i 0).toNat 0=t:=by
  simp only [Kr,List.mem_map,rX]
  constructor
  · rintro ⟨c,hc,rfl⟩
    obtain ⟨i,hi,rfl⟩:=List.mem_iff_getElem.1 hc
    exact ⟨i,hi,by simp [List.getD_eq_getElem?_getD,hi]⟩
  · rintro ⟨i,hi,rfl⟩
    exact ⟨d.cls.getD i 0,by simp [List.getD_eq_getElem?_getD,hi],rfl⟩
structure WH (d:ar) (s:Nat) (q:List Bool) (k:Nat):Prop where
  len:q.length=d.acc.length
  val:∀c:Nat,c<d.acc.length→(q.getD c false=true↔c=s∨∃i,i<k∧d.next.getD ((s:Int)*d.width+d.cls.getD i 0).toNat 0=(c:Int))
theorem ll {q:List Bool} {i j:Nat} {b:Bool} (hi:i<q.length):(q.set i b).getD j false=if i=j then b else q.getD j false:=by
  simp only [List.getD_eq_getElem?_getD,List.getElem?_set]
  split
  · rename_i e;subst e;simp [hi]
  · rfl
theorem WH.start {d:ar} {s:Nat} (hs:s<d.acc.length):WH d s ((List.replicate d.acc.length false).set s true) 0:=by
  refine ⟨by simp,fun c hc=>?_⟩
  rw [ll (by simpa using hs)]
  split
  · rename_i e;simp [e]
  · rename_i e
    have:(List.replicate d.acc.length false).getD c false=false:=by simp [List.getD_eq_getElem?_getD,hc]
    rw [this]
    constructor
    · intro h;cases h
    · rintro (h|⟨i,h,_⟩)
      · exact absurd h.symm e
      · omega
theorem WH.step {d:ar} {s k x:Nat} {q:List Bool} (h:WH d s q k) (hx:d.next.getD ((s:Int)*d.width+d.cls.getD k 0).toNat 0=(x:Int)) (hxn:x<d.acc.length):WH d s (q.set x true) (k+1):=by
  refine ⟨by simp [h.len],fun c hc=>?_⟩
  rw [ll (by rw [h.len];exact hxn)]
  split
  · rename_i e;subst e
    exact ⟨fun _=> .inr ⟨k,by omega,hx⟩,fun _=>rfl⟩
  · rename_i e
    rw [h.val c hc]
    constructor
    · rintro (h1|⟨i,h1,h2⟩)
      · exact .inl h1
      · exact .inr ⟨i,by omega,h2⟩
    · rintro (h1|⟨i,h1,h2⟩)
      · exact .inl h1
      · by_cases hi:i=k
        · subst hi;rw [hx] at h2;omega
        · exact .inr ⟨i,by omega,h2⟩
def WM (d:ar):Nat→Nat→Nat→Prop
  | 0,i,k=>k=i∨(k:Int)∈Kr d i
  | m+1,i,k=>WM d m i k∨(WM d m i m∧WM d m m k)
theorem WM.up {d:ar} {i k:Nat} :∀ {m n:Nat},m≤n→WM d m i k→WM d n i k
  | m,0,h,w=>by
                     have:m=0:=by omega
                     subst this;exact w
  | m,n+1,h,w=>by
    by_cases e:m=n+1
    · subst e;exact w
    · exact .inl (WM.up oz w)
theorem WM.to {d:ar} :∀ {m i k:Nat},WM d m i k→To d i k
  | 0,i,k,h=>by
    rcases h with rfl|h
    · exact .refl _
    · exact .step h (.refl _)
  | m+1,i,k,h=>by
    rcases h with h|⟨h1,h2⟩
    · exact WM.to h
    · exact (WM.to h1).trans (WM.to h2)
theorem WM.trans {d:ar} :∀ {m i j k:Nat},j<m→WM d m i j→WM d m j k→WM d m i k
  | m+1,i,j,k,hj,h1,h2=>by
    by_cases e:j=m
    · subst e
      have a:WM d j i j:=by rcases h1 with h|⟨h,_⟩<;>exact h
      have b:WM d j j k:=by rcases h2 with h|⟨_,h⟩<;>exact h
      exact .inr ⟨a,b⟩
    · have SN:j<m:=by omega
      rcases h1 with a|⟨a,a2⟩<;>rcases h2 with b|⟨b,b2⟩
      · exact .inl (WM.trans SN a b)
      · exact .inr ⟨WM.trans SN a b,b2⟩
      · exact .inr ⟨a,WM.trans SN a2 b⟩
      · exact .inr ⟨a,b2⟩
theorem WM.iff {d:ar} (hr:aN d=true) {i k:Nat} (hi:i<d.acc.length):WM d d.acc.length i k↔To d i k:=by
  refine ⟨WM.to,fun h=>?_⟩
  have key:∀a b:Int,To d a b→0≤a∧a<(d.acc.length:Int)→WM d d.acc.length a.toNat b.toNat:=by
    intro a b NZ
    induction NZ with
    | refl s=>intro _;exact WM.up (Nat.zero_le _) (.inl rfl)
    | @step a u t hu _ ih=>
      intro ha
      have hub:=HY hr ha.1 ha.2 hu
      refine WM.trans (j:=u.toNat) oz (WM.up (Nat.zero_le _) (.inr ?_)) (ih hub)
      rw [Int.toNat_of_nonneg ha.1,Int.toNat_of_nonneg hub.1];exact hu
  have:=key _ _ h ⟨by omega,by omega⟩
  simpa using this
structure Vy (d:ar) (X:List (LR Bool)) (s:Nat):Prop where
  len:X.length=s
  row:∀r,r<s→(X.getD r ai).xs.length=d.acc.length
  val:∀r c,r<s→c<d.acc.length→(bx X r c=true↔WM d 0 r c)
theorem Vy.start (d:ar):Vy d [] 0:=⟨rfl,fun r h=>by omega,fun r c h=>by omega⟩
theorem jq {X:List (LR Bool)} {p:LR Bool} {r:Nat} :(X++[p]).getD r ai=if r<X.length then X.getD r ai else if r=X.length then p else ai:=by
  simp only [List.getD_eq_getElem?_getD,List.getElem?_append]
  split
  · rfl
  · split
    · rename_i h1 h2;subst h2;simp
    · rename_i h1 h2;rw [List.getElem?_eq_none gv];rfl
theorem Vy.step {d:ar} {X:List (LR Bool)} {s n c k:Nat} {a:aO} {q:List Bool} (h:Vy d X s) (hq:WH d s q k) (hk:k=d.cls.length):Vy d (X++[⟨a,n,c,q⟩]) (s+1):=by
  subst hk
  refine ⟨by simp [h.len],fun r hr=>?_,fun r c hr hc=>?_⟩
  · rw [jq,h.len]
    split
    · rename_i h1;exact h.row r h1
    · rw [if_pos oz];exact hq.len
  · unfold bx
    rw [jq,h.len]
    split
    · rename_i h1;exact h.val r c h1 hc
    · have e:r=s:=by omega
      subst e
      rw [if_pos rfl]
      show q.getD c false=true↔_
      rw [hq.val c hc]
      simp only [WM,Kq]
structure DB (d:ar) (X:List (LR Bool)) (m i k:Nat):Prop where
  len:X.length=d.acc.length
  row:∀r,r<d.acc.length→(X.getD r ai).xs.length=d.acc.length
  val:∀r c,r<d.acc.length→c<d.acc.length→(bx X r c=true↔if r<i∨r=i∧c<k then WM d (m+1) r c else WM d m r c)
  act:k=0∨WM d m i m
theorem Vy.done {d:ar} {X:List (LR Bool)} {s:Nat} (h:Vy d X s) (hs:s=d.acc.length):DB d X 0 0 0:=by
  subst hs
  exact ⟨h.len,h.row,fun r c hr hc=>by rw [if_neg oz];exact h.val r c hr hc,.inl rfl⟩
theorem DB.col {d:ar} {X:List (LR Bool)} {m i k:Nat} (h:DB d X m i k) (hi:i<d.acc.length) (hm:m<d.acc.length):bx X i m=true↔WM d m i m:=by
  rw [h.val i m hi hm]
  split
  · exact ⟨fun h=>by rcases h with h|⟨h,_⟩<;>exact h,.inl⟩
  · rfl
theorem DB.mid {d:ar} {X:List (LR Bool)} {m i k c:Nat} (h:DB d X m i k) (hm:m<d.acc.length) (hc:c<d.acc.length):bx X m c=true↔WM d m m c:=by
  rw [h.val m c hm hc]
  split
  · exact ⟨fun h=>by rcases h with h|⟨_,h⟩<;>exact h,.inl⟩
  · rfl
theorem DB.step {d:ar} {X:List (LR Bool)} {m i k:Nat} {b:Bool} (h:DB d X m i k) (hm:m<d.acc.length) (hi:i<d.acc.length) (hk:k<d.acc.length) (ha:bx X i m=true) (hb:b=(bx X i k||bx X m k)):
    DB d (X.set i ⟨(X.getD i ai).a,(X.getD i ai).n,(X.getD i ai).c,(X.getD i ai).xs.set k b⟩) m i (k+1):=by
  have MZ:i<X.length:=by rw [h.len];exact hi
  have hg:∀r,(X.set i ⟨(X.getD i ai).a,(X.getD i ai).n,(X.getD i ai).c,(X.getD i ai).xs.set k b⟩).getD r ai=if i=r then ⟨(X.getD i ai).a,(X.getD i ai).n,(X.getD i ai).c,(X.getD i ai).xs.set k b⟩ else X.getD r ai:=fun r=>by
    simp only [List.getD_eq_getElem?_getD,List.getElem?_set]
    split
    · rename_i e;subst e;simp [MZ]
    · rfl
  have ha':=(h.col hi hm).1 ha
  refine ⟨by simp [h.len],fun r hr=>?_,fun r c hr hc=>?_,.inr ha'⟩
  · rw [hg]
    split
    · rename_i e;subst e;show ((X.getD i ai).xs.set k b).length=_;rw [List.length_set];exact h.row i hr
    · exact h.row r hr
  · unfold bx
    rw [hg]
    split
    · rename_i e;subst e
      show ((X.getD i ai).xs.set k b).getD c false=true↔_
      rw [ll (by rw [h.row i hi];exact hk)]
      have hv:=h.val i c hi hc
      split
      · rename_i e;subst e
        rw [if_pos oz,hb,Bool.or_eq_true,h.mid hm hc,hv,if_neg oz]
        show _↔WM d m i k∨_∧_
        constructor
        · rintro (h1|h1)
          · exact .inl h1
          · exact .inr ⟨ha',h1⟩
        · rintro (h1|⟨_,h1⟩)
          · exact .inl h1
          · exact .inr h1
      · rename_i e
        show bx X i c=true↔_
        rw [hv]
        by_cases hck:c<k
        · rw [if_pos oz,if_pos oz]
        · rw [if_neg oz,if_neg oz]
    · rename_i e
      show bx X r c=true↔_
      rw [h.val r c hr hc]
      by_cases hck:r<i
      · rw [if_pos oz,if_pos oz]
      · rw [if_neg oz,if_neg oz]
theorem DB.pY {d:ar} {X:List (LR Bool)} {m i k:Nat} (h:DB d X m i k) (hm:m<d.acc.length) (hi:i<d.acc.length) (hk:¬(k<d.acc.length)∨¬bx X i m=true):DB d X m (i+1) 0:=by
  refine ⟨h.len,h.row,fun r c hr hc=>?_,.inl rfl⟩
  have hv:=h.val r c hr hc
  by_cases e:r=i
  · subst e
    rw [if_pos oz,hv]
    split
    · rfl
    · rename_i hn
      have hna:¬WM d m r m:=fun hw=>by
        rcases hk with hk|hk
        · exact hn (.inr ⟨rfl,by omega⟩)
        · exact hk ((h.col hr hm).2 hw)
      exact ⟨.inl,fun h=>by rcases h with h|⟨h,_⟩;exact h;exact absurd h hna⟩
  · rw [hv]
    by_cases wH:r<i
    · rw [if_pos oz,if_pos oz]
    · rw [if_neg oz,if_neg oz]
theorem DB.Vi {d:ar} {X:List (LR Bool)} {m i:Nat} (h:DB d X m i 0) (hi:¬i<d.acc.length):DB d X (m+1) 0 0:=by
  refine ⟨h.len,h.row,fun r c hr hc=>?_,.inl rfl⟩
  rw [h.val r c hr hc,if_pos oz,if_neg oz]
structure Sy (d:ar) (X:List (LR Bool)):Prop where
  len:X.length=d.acc.length
  row:∀r,r<d.acc.length→(X.getD r ai).xs.length=d.acc.length
  val:∀r c,r<d.acc.length→c<d.acc.length→(bx X r c=true↔To d r c)
theorem DB.fin {d:ar} {X:List (LR Bool)} {m:Nat} (hr:aN d=true) (h:DB d X m 0 0) (hm:m=d.acc.length):Sy d X:=by
  subst hm
  exact ⟨h.len,h.row,fun r c h1 h2=>by rw [h.val r c h1 h2,if_neg oz,WM.iff hr h1]⟩
def dN (d:ar) (i:Nat) (c:Int):Nat:=(bA d (i:Int) c).toNat
def fD (d:ar):Nat→Nat→Nat→Prop
  | 0,i,k=>d.acc.getD i false≠d.acc.getD k false
  | t+1,i,k=>fD d t i k∨∃c:Int,(0≤c∧c<259)∧fD d t (dN d i c) (dN d k c)
def As (d:ar) (i k:Nat):Prop:=∃t,fD d t i k
theorem uC {d:ar} {i k s:Nat} :∀ {t:Nat},s≤t→fD d s i k→fD d t i k
  | 0,h,w=>by
                  have:s=0:=by omega
                  subst this;exact w
  | t+1,h,w=>by
    by_cases e:s=t+1
    · subst e;exact w
    · exact .inl (uC oz w)
theorem lr {d:ar} :∀ {t i k:Nat},fD d t i k→fD d t k i
  | 0,_,_,h=>Ne.symm h
  | t+1,_,_,h=>by
    rcases h with h|⟨c,hc,h⟩
    · exact .inl (lr h)
    · exact .inr ⟨c,hc,lr h⟩
theorem pF {d:ar} :∀ {t i:Nat},¬fD d t i i
  | 0,_,h=>h rfl
  | t+1,_,h=>by
    rcases h with h|⟨c,hc,h⟩
    · exact pF h
    · exact pF h
theorem iS {d:ar} :∀ {t i k:Nat} (j:Nat),fD d t i k→fD d t i j∨fD d t j k
  | 0,i,k,j,h=>by
    show d.acc.getD i false≠d.acc.getD j false∨d.acc.getD j false≠d.acc.getD k false
    by_cases e:d.acc.getD i false=d.acc.getD j false
    · exact .inr (fun e2=>h (e.trans e2))
    · exact .inl e
  | t+1,i,k,j,h=>by
    rcases h with h|⟨c,hc,h⟩
    · rcases iS j h with h|h
      · exact .inl (.inl h)
      · exact .inr (.inl h)
    · rcases iS (dN d j c) h with h|h
      · exact .inl (.inr ⟨c,hc,h⟩)
      · exact .inr (.inr ⟨c,hc,h⟩)
theorem nC {d:ar} (hr:aN d=true) {i:Nat} (hi:i<d.acc.length) {c:Int} (hc:0≤c∧c<259):dN d i c<d.acc.length:=by
  have hs:=jM hr hc.1 hc.2
  have h9:=dS (q:=(i:Int)) hr oz oz hs.2.1 hs.2.2.1
  have h1:0≤bA d (i:Int) c∧bA d (i:Int) c<(d.acc.length:Int):=⟨h9.2.2.2.1,h9.2.2.2.2⟩
  unfold dN;omega
theorem pI {d:ar} (hr:aN d=true) {i:Nat} (hi:i<d.acc.length) {c:Int} (hc:0≤c∧c<259):((dN d i c:Nat):Int)=bA d (i:Int) c:=by
  have hs:=jM hr hc.1 hc.2
  have h9:=dS (q:=(i:Int)) hr oz oz hs.2.1 hs.2.2.1
  have h1:0≤bA d (i:Int) c∧bA d (i:Int) c<(d.acc.length:Int):=⟨h9.2.2.2.1,h9.2.2.2.2⟩
  unfold dN;omega
theorem rF {d:ar} (hr:aN d=true) {t:Nat} (h:∀i k,i<d.acc.length→k<d.acc.length→fD d (t+1) i k→fD d t i k):∀(s i k:Nat),i<d.acc.length→k<d.acc.length→fD d (t+s) i k→fD d t i k
  | 0,i,k,_,_,w=>w
  | s+1,i,k,hi,hk,w=>by
    rcases w with w|⟨c,hc,w⟩
    · exact rF hr h s i k hi hk w
    · exact h i k hi hk (.inr ⟨c,hc,rF hr h s _ _ (nC hr hi hc) (nC hr hk hc) w⟩)
theorem yl (P:Nat→Prop):∀j,P j→∃r,r≤j∧P r∧∀k,k<r→¬P k:=by
  intro j
  induction j using Nat.strongRecOn with
  | _ j ih=>
    intro hj
    by_cases h:∃k,k<j∧P k
    · obtain ⟨k,hk,hp⟩:=h
      obtain ⟨r,h1,h2,h3⟩:=ih k hk hp
      exact ⟨r,by omega,h2,h3⟩
    · exact ⟨j,Nat.le_refl j,hj,fun k hk hp=>h ⟨k,hk,hp⟩⟩
def Hu (d:ar) (t i:Nat):Prop:=∀k,k<i→fD d t k i
theorem Ma {d:ar} {t i:Nat} (h:Hu d t i):Hu d (t+1) i:=fun k hk=> .inl (h k hk)
open Classical in
theorem filter_lt {p q:Nat→Prop} :∀(l:List Nat),(∀x,p x→q x)→(∃x,x∈l∧q x∧¬p x)→(l.filter fun x=>decide (p x)).length<(l.filter fun x=>decide (q x)).length:=by
  have le:∀(l:List Nat),(∀x,p x→q x)→(l.filter fun x=>decide (p x)).length≤(l.filter fun x=>decide (q x)).length:=by
    intro l h
    induction l with
    | nil=>exact Nat.le_refl _
    | cons a l ih=>
      by_cases hp:p a
      · rw [List.filter_cons_of_pos (by simpa using hp),List.filter_cons_of_pos (by simpa using h a hp)]
        simp only [List.length_cons];omega
      · rw [List.filter_cons_of_neg (by simpa using hp)]
        by_cases hq:q a
        · rw [List.filter_cons_of_pos (by simpa using hq)];simp only [List.length_cons];omega
        · rw [List.filter_cons_of_neg (by simpa using hq)];exact ih
  intro l h
  induction l with
  | nil=>rintro ⟨x,hx,_⟩;simp at hx
  | cons a l ih=>
    rintro ⟨x,hx,hqx,hpx⟩
    by_cases hp:p a
    · rw [List.filter_cons_of_pos (by simpa using hp),List.filter_cons_of_pos (by simpa using h a hp)]
      rcases List.mem_cons.1 hx with rfl|hx
      · exact absurd hp hpx
      · have:=ih ⟨x,hx,hqx,hpx⟩;simp only [List.length_cons];omega
    · rw [List.filter_cons_of_neg (by simpa using hp)]
      by_cases hq:q a
      · rw [List.filter_cons_of_pos (by simpa using hq)]
        have:=le l h;simp only [List.length_cons];omega
      · rw [List.filter_cons_of_neg (by simpa using hq)]
        rcases List.mem_cons.1 hx with rfl|hx
        · exact absurd hqx hq
        · exact ih ⟨x,hx,hqx,hpx⟩
open Classical in
noncomputable def I6 (d:ar) (t:Nat):Nat:=((List.range d.acc.length).filter fun i=>decide (Hu d t i)).length
theorem U0 (d:ar) (t:Nat):I6 d t≤d.acc.length:=by
  unfold I6;exact Nat.le_trans (List.length_filter_le _ _) (by simp)
theorem UZ {d:ar} {t i k:Nat} (hi:i<d.acc.length) (hk:k<d.acc.length) (h1:fD d (t+1) i k) (h0:¬fD d t i k):I6 d t<I6 d (t+1):=by
  obtain ⟨m,Ue,zz,V8⟩:=yl (fun x=>¬fD d t x i) i pF
  have hrm:Hu d t m:=fun x hx=>by
    have h9:fD d t x i:=Classical.not_not.1 (V8 x hx)
    rcases iS m h9 with h|h
    · exact h
    · exact absurd h zz
  have key:∀j,j<d.acc.length→¬fD d t m j→fD d (t+1) m j→∃x,x∈List.range d.acc.length∧Hu d (t+1) x∧¬Hu d t x:=by
    intro j hj hn hd
    obtain ⟨r,ng,iK,hr3⟩:=yl (fun x=>¬fD d (t+1) x j) j pF
    refine ⟨r,List.mem_range.2 oz,fun x hx=>?_,fun XQ=>?_⟩
    · have h9:fD d (t+1) x j:=Classical.not_not.1 (hr3 x hx)
      rcases iS r h9 with h|h
      · exact h
      · exact absurd h iK
    · have e1:¬fD d t r j:=fun h=>iK (.inl h)
      have e2:¬fD d t r m:=fun h=>by
        rcases iS j h with h|h
        · exact e1 h
        · exact hn (lr h)
      rcases Nat.lt_trichotomy r m with h|h|h
      · exact e2 (hrm r h)
      · subst h;exact iK hd
      · exact e2 (lr (XQ m h))
  unfold I6
  refine filter_lt _ (fun x hx=>Ma hx) ?_
  rcases iS m h1 with h|h
  · exact key i hi zz (lr h)
  · refine key k hk (fun h9=>?_) h
    rcases iS i h9 with h8|h8
    · exact zz h8
    · exact h0 h8
theorem abE {d:ar} (hr:aN d=true) {i k:Nat} (hi:i<d.acc.length) (hk:k<d.acc.length) (h:As d i k):fD d d.acc.length i k:=by
  have jn:∃t,t<d.acc.length∧∀i k,i<d.acc.length→k<d.acc.length→fD d (t+1) i k→fD d t i k:=by
    refine Classical.byContradiction fun qJ=>?_
    have up:∀t,t≤d.acc.length→t+1≤I6 d t:=by
      intro t
      induction t with
      | zero=>
        intro _
        have hm:0∈(List.range d.acc.length).filter (fun i=> @decide (Hu d 0 i) (Classical.propDecidable _)):=List.mem_filter.2 ⟨List.mem_range.2 oz,by simp only [decide_eq_true_eq];intro k hk;omega⟩
        have:=List.length_pos_of_mem hm
        unfold I6;omega
      | succ t ih=>
        intro ht
        have h1:=ih oz
        have h2:∃i k,i<d.acc.length∧k<d.acc.length∧fD d (t+1) i k∧¬fD d t i k:=by
          refine Classical.byContradiction fun hn=>qJ ⟨t,by omega,fun i k hi hk hd=>Classical.byContradiction fun h9=>hn ⟨i,k,hi,hk,hd,h9⟩⟩
        obtain ⟨i,k,hi,hk,hd,hn⟩:=h2
        have:=UZ hi hk hd hn
        omega
    have h1:=up d.acc.length (Nat.le_refl _)
    have h2:=U0 d d.acc.length
    omega
  obtain ⟨t,ht,hs⟩:=jn
  obtain ⟨s,hd⟩:=h
  have h9:=rF hr hs s i k hi hk (uC oz hd)
  exact uC oz h9
structure N4 (d:ar) (q:List Int) (s:Nat):Prop where
  bd:∀c,c∈q→0≤c∧c<(s:Int)
  all:∀k,k<s→∃c,c∈q∧d.cls.getD c.toNat 0=d.cls.getD k 0
  len:q.length≤s
theorem N4.start (d:ar):N4 d [] 0:=⟨fun c h=>by simp at h,fun k h=>by omega,by simp⟩
def MJ (d:ar) (q:List Int) (s k:Nat):Bool:=(q.take k).all fun c=>decide (d.cls.getD c.toNat 0≠d.cls.getD s 0)
theorem qi {d:ar} {q:List Int} {s k:Nat} (hk:k<q.length):MJ d q s (k+1)=(MJ d q s k&&decide (d.cls.getD (q.getD k 0).toNat 0≠d.cls.getD s 0)):=by
  unfold MJ
  rw [List.take_succ_eq_append_getElem hk,List.all_append]
  simp [List.getD_eq_getElem?_getD,hk]
theorem N4.yes {d:ar} {q:List Int} {s:Nat} (h:N4 d q s):N4 d (q++[(s:Int)]) (s+1):=by
  refine ⟨fun c hc=>?_,fun k hk=>?_,by simp;exact h.len⟩
  · rcases List.mem_append.1 hc with hc|hc
    · have:=h.bd c hc;omega
    · rw [List.mem_singleton.1 hc];omega
  · by_cases e:k=s
    · subst e;exact ⟨(k:Int),by simp,by simp⟩
    · obtain ⟨c,hc,he⟩:=h.all k oz
      exact ⟨c,List.mem_append_left _ hc,he⟩
theorem N4.no {d:ar} {q:List Int} {s:Nat} (h:N4 d q s) (hb:MJ d q s q.length=false):N4 d q (s+1):=by
  refine ⟨fun c hc=>by have:=h.bd c hc;omega,fun k hk=>?_,by have:=h.len;omega⟩
  by_cases e:k=s
  · subst e
    unfold MJ at hb
    rw [List.take_length] at hb
    obtain ⟨c,hc,he⟩:=List.all_eq_false.1 hb
    exact ⟨c,hc,by simpa using he⟩
  · exact h.all k oz
theorem Rz {d:ar} {i:Nat} {b c:Int} (h:d.cls.getD c.toNat 0=d.cls.getD b.toNat 0):dN d i b=dN d i c:=by unfold dN bA;rw [h]
structure DN (d:ar) (X:List (LR Bool)) (t i k:Nat):Prop where
  len:X.length=d.acc.length
  row:∀r,r<d.acc.length→(X.getD r ai).xs.length=d.acc.length
  snd:∀r c,r<d.acc.length→c<d.acc.length→bx X r c=true→As d r c
  cmp:∀r c,r<d.acc.length→c<d.acc.length→(if r<i∨r=i∧c<k then fD d (t+1) r c else fD d t r c)→bx X r c=true
theorem DN.LB {d:ar} {X:List (LR Bool)} {t i k r c:Nat} (h:DN d X t i k) (hr:r<d.acc.length) (hc:c<d.acc.length) (hd:fD d t r c):bx X r c=true:=by
  refine h.cmp r c hr hc ?_
  split
  · exact .inl hd
  · exact hd
structure ZQ (d:ar) (h:List Int) (X:List (LR Bool)) (t i k j:Nat):Prop where
  u:DN d X t i k
  q:∀x,x<j→fD d t (dN d i (h.getD x 0)) (dN d k (h.getD x 0))→bx X i k=true
theorem DN.inner {d:ar} {h:List Int} {X:List (LR Bool)} {t i k:Nat} (u:DN d X t i k):ZQ d h X t i k 0:=⟨u,fun x hx=>by omega⟩
theorem ZQ.step {d:ar} {h:List Int} {X:List (LR Bool)} {t i k j:Nat} {b:Bool} (hr:aN d=true) (u:ZQ d h X t i k j) (hi:i<d.acc.length) (hk:k<d.acc.length) (hj:0≤h.getD j 0∧h.getD j 0<259) (hn:¬bx X i k=true) (hb:b=bx X (dN d i (h.getD j 0)) (dN d k (h.getD j 0))):
    ZQ d h (X.set i ⟨(X.getD i ai).a,(X.getD i ai).n,(X.getD i ai).c,(X.getD i ai).xs.set k b⟩) t i k (j+1):=by
  have MZ:i<X.length:=by rw [u.u.len];exact hi
  have hg:∀r,(X.set i ⟨(X.getD i ai).a,(X.getD i ai).n,(X.getD i ai).c,(X.getD i ai).xs.set k b⟩).getD r ai=if i=r then ⟨(X.getD i ai).a,(X.getD i ai).n,(X.getD i ai).c,(X.getD i ai).xs.set k b⟩ else X.getD r ai:=fun r=>by
    simp only [List.getD_eq_getElem?_getD,List.getElem?_set]
    split
    · rename_i e;subst e;simp [MZ]
    · rfl
  have qV:∀r c,bx (X.set i ⟨(X.getD i ai).a,(X.getD i ai).n,(X.getD i ai).c,(X.getD i ai).xs.set k b⟩) r c=if r=i∧c=k then b else bx X r c:=fun r c=>by
    unfold bx
    rw [hg]
    by_cases e:i=r
    · subst e
      rw [if_pos rfl]
      show ((X.getD i ai).xs.set k b).getD c false=_
      rw [ll (by rw [u.u.row i hi];exact hk)]
      by_cases e2:k=c
      · subst e2;simp
      · rw [if_neg (fun h=>e2 h),if_neg (fun h=>e2 h.2.symm)]
    · rw [if_neg e,if_neg (fun h=>e h.1.symm)]
  have acn:=nC hr hi hj
  have acm:=nC hr hk hj
  refine ⟨⟨by rw [List.length_set];exact u.u.len,fun r T8=>?_,fun r c h1 h2 h3=>?_,fun r c h1 h2 h3=>?_⟩,fun x hx hd=>?_⟩
  · rw [hg]
    split
    · rename_i e;subst e;show ((X.getD i ai).xs.set k b).length=_;rw [List.length_set];exact u.u.row i hi
    · exact u.u.row r T8
  · rw [qV] at h3
    split at h3
    · rename_i e
      obtain ⟨rfl,rfl⟩:=e
      rw [hb] at h3
      obtain ⟨s,hs⟩:=u.u.snd _ _ acn acm h3
      exact ⟨s+1,.inr ⟨_,hj,hs⟩⟩
    · exact u.u.snd r c h1 h2 h3
  · have h4:=u.u.cmp r c h1 h2 h3
    rw [qV]
    split
    · rename_i e;obtain ⟨rfl,rfl⟩:=e;exact absurd h4 hn
    · exact h4
  · rw [qV,if_pos ⟨rfl,rfl⟩]
    by_cases e:x=j
    · subst e;rw [hb];exact u.u.LB acn acm hd
    · exact absurd (u.q x oz hd) hn
theorem ZQ.next {d:ar} {h:List Int} {X:List (LR Bool)} {t i k j:Nat} (u:ZQ d h X t i k j) (hH:N4 d h 259) (hi:i<d.acc.length) (hk:k<d.acc.length) (he:¬j<h.length∨bx X i k=true):DN d X t i (k+1):=by
  refine ⟨u.u.len,u.u.row,u.u.snd,fun r c h1 h2 h3=>?_⟩
  by_cases e:r=i∧c=k
  · obtain ⟨rfl,rfl⟩:=e
    rw [if_pos (.inr ⟨rfl,by omega⟩)] at h3
    rcases he with he|he
    · rcases h3 with h3|⟨b,hb,h3⟩
      · exact u.u.LB h1 h2 h3
      · obtain ⟨a,ha,Yh⟩:=hH.all b.toNat oz
        obtain ⟨x,hx,rfl⟩:=List.mem_iff_getElem.1 ha
        have hax:h.getD x 0=h[x]:=by simp [List.getD_eq_getElem?_getD,List.getElem?_eq_getElem hx]
        rw [←hax] at Yh
        rw [Rz (i:=r) Yh,Rz (i:=c) Yh] at h3
        exact u.q x oz h3
    · exact he
  · refine u.u.cmp r c h1 h2 ?_
    split at h3
    · rename_i h4;rw [if_pos oz];exact h3
    · rename_i h4;rw [if_neg oz];exact h3
theorem DN.pY {d:ar} {X:List (LR Bool)} {t i k:Nat} (u:DN d X t i k) (hk:¬k<d.acc.length):DN d X t (i+1) 0:=by
  refine ⟨u.len,u.row,u.snd,fun r c h1 h2 h3=>u.cmp r c h1 h2 ?_⟩
  split at h3
  · rename_i h4;rw [if_pos oz];exact h3
  · rename_i h4;rw [if_neg oz];exact h3
theorem DN.afE {d:ar} {X:List (LR Bool)} {t i:Nat} (u:DN d X t i 0) (hi:¬i<d.acc.length):DN d X (t+1) 0 0:=by
  refine ⟨u.len,u.row,u.snd,fun r c h1 h2 h3=>u.cmp r c h1 h2 ?_⟩
  rw [if_neg oz] at h3
  rw [if_pos oz];exact h3
structure UnP (d:ar) (X:List (LR Bool)):Prop where
  len:X.length=d.acc.length
  row:∀r,r<d.acc.length→(X.getD r ai).xs.length=d.acc.length
  val:∀r c,r<d.acc.length→c<d.acc.length→(bx X r c=true↔As d r c)
theorem DN.fin {d:ar} {X:List (LR Bool)} {t:Nat} (hr:aN d=true) (u:DN d X t 0 0) (ht:t=d.acc.length):UnP d X:=by
  subst ht
  exact ⟨u.len,u.row,fun r c h1 h2=>⟨u.snd r c h1 h2,fun h=>u.LB h1 h2 (abE hr h1 h2 h)⟩⟩
structure WB (d:ar) (i:Nat) (q:List Bool) (k:Nat):Prop where
  len:q.length=d.acc.length
  val:∀c,c<k→q.getD c false=decide (d.acc.getD i false≠d.acc.getD c false)
theorem WB.start {d:ar} {i n:Nat} (h:n=d.acc.length):WB d i (List.replicate n false) 0:=⟨by simp [h],fun c hc=>by omega⟩
theorem WB.step {d:ar} {i k:Nat} {q:List Bool} {b:Bool} (h:WB d i q k) (hk:k<d.acc.length) (hb:b=decide (d.acc.getD i false≠d.acc.getD k false)):WB d i (q.set k b) (k+1):=by
  refine ⟨by rw [List.length_set];exact h.len,fun c hc=>?_⟩
  rw [ll (by rw [h.len];exact hk)]
  split
  · rename_i e;subst e;exact hb
  · exact h.val c oz
structure Vn (d:ar) (X:List (LR Bool)) (s:Nat):Prop where
  len:X.length=s
  row:∀r,r<s→(X.getD r ai).xs.length=d.acc.length
  val:∀r c,r<s→c<d.acc.length→bx X r c=decide (d.acc.getD r false≠d.acc.getD c false)
theorem Vn.start (d:ar):Vn d [] 0:=⟨rfl,fun r h=>by omega,fun r c h=>by omega⟩
theorem Vn.step {d:ar} {X:List (LR Bool)} {s n c k:Nat} {a:aO} {q:List Bool} (h:Vn d X s) (hq:WB d s q k) (hk:k=d.acc.length):Vn d (X++[⟨a,n,c,q⟩]) (s+1):=by
  subst hk
  refine ⟨by simp [h.len],fun r hr=>?_,fun r c hr hc=>?_⟩
  · rw [jq,h.len]
    split
    · rename_i h1;exact h.row r h1
    · rw [if_pos oz];exact hq.len
  · unfold bx
    rw [jq,h.len]
    split
    · rename_i h1;exact h.val r c h1 hc
    · have e:r=s:=by omega
      subst e
      rw [if_pos rfl]
      exact hq.val c hc
theorem Vn.done {d:ar} {X:List (LR Bool)} {s:Nat} (h:Vn d X s) (hs:s=d.acc.length):DN d X 0 0 0:=by
  subst hs
  refine ⟨h.len,h.row,fun r c hr hc h1=>⟨0,?_⟩,fun r c hr hc h1=>?_⟩
  · rw [h.val r c hr hc] at h1;show d.acc.getD r false≠d.acc.getD c false;exact of_decide_eq_true h1
  · rw [if_neg oz] at h1
    rw [h.val r c hr hc];have h2:d.acc.getD r false≠d.acc.getD c false:=h1;exact decide_eq_true h2
def dp (c:Int) (l:List Int):Int:=if c∈l then ((ix c l:Nat):Int) else-1
def ax (l:List Int) (width:Int):List Int:=List.map (fun c:Nat=>dp (c:Int) l) (List.range (min width 259).toNat)
theorem nV {α:Type} [DecidableEq α] {x:α} :∀ {l:List α},x∉l→ix x (l++[x])=l.length
  | [],_=>by simp [ix]
  | y::l,h=>by
    simp only [List.mem_cons,not_or] at h
    simp only [List.cons_append,ix,if_neg h.1,nV h.2,List.length_cons]
theorem kg (l:List Int) (width:Int):(ax l width).length=(min width 259).toNat:=by simp [ax]
theorem vB (c:Int) (l:List Int) (x:Int):dp c (l++[x])=if c∈l then dp c l else if x=c then (l.length:Int) else-1:=by
  unfold dp
  by_cases h:c∈l
  · rw [if_pos (by simp [h]),if_pos h,if_pos h,pw _ h]
  · rw [if_neg h]
    by_cases e:x=c
    · subst e
      rw [if_pos (by simp),if_pos rfl]
      have:=nV h
      rw [this]
    · rw [if_neg (by simp [h];exact fun e'=>e e'.symm),if_neg e]
theorem n7 {c:Int} {l:List Int} :dp c l<0↔c∉l:=by
  unfold dp;split<;>rename_i h<;>simp [h]
structure N9 (l:List Int) (n:Nat) (q:List Int) (k:Nat):Prop where
  len:q.length=n
  val:∀c:Nat,c<n→q.getD c 0=dp (c:Int) (l.take k)
theorem N9.start (l:List Int) (n:Nat):N9 l n (List.replicate n (-1)) 0:=⟨by simp,fun c hc=>by simp [List.getD_eq_getElem?_getD,hc,dp]⟩
theorem cr {α:Type} {l:List α} {k:Nat} (d:α) (h:k<l.length):l.take (k+1)=l.take k++[l.getD k d]:=by
  rw [List.take_add_one,List.getElem?_eq_getElem h];simp [List.getD_eq_getElem?_getD,List.getElem?_eq_getElem h]
theorem nj {q:List Int} {i j:Nat} {b:Int} (hi:i<q.length):(q.set i b).getD j 0=if i=j then b else q.getD j 0:=by
  simp only [List.getD_eq_getElem?_getD,List.getElem?_set]
  split
  · rename_i e;subst e;simp [hi]
  · rfl
theorem N9.skip {l:List Int} {n:Nat} {q:List Int} {k:Nat} (h:N9 l n q k) (hk:k<l.length) (hc:¬(0≤l.getD k 0∧l.getD k 0<(n:Int)∧q.getD (l.getD k 0).toNat 0<0)):N9 l n q (k+1):=by
  refine ⟨h.len,fun c Yd=>?_⟩
  rw [cr 0 hk,vB,h.val c Yd]
  split
  · rfl
  · rename_i hn
    rw [if_neg (fun e=>hc ⟨by omega,by omega,?_⟩)]
    · unfold dp;rw [if_neg hn]
    · rw [e,Int.toNat_natCast,h.val c Yd,n7];exact hn
theorem N9.put {l:List Int} {n:Nat} {q:List Int} {k:Nat} (h:N9 l n q k) (hk:k<l.length) (h0:0≤l.getD k 0) (h1:l.getD k 0<(n:Int)) (h2:q.getD (l.getD k 0).toNat 0<0):N9 l n (q.set (l.getD k 0).toNat (k:Int)) (k+1):=by
  have hl:(l.getD k 0).toNat<q.length:=by rw [h.len];omega
  have hx:l.getD k 0∉l.take k:=by
    have:=h.val (l.getD k 0).toNat oz
    rw [this,Int.toNat_of_nonneg h0,n7] at h2;exact h2
  refine ⟨by simp [h.len],fun c Yd=>?_⟩
  rw [nj hl,cr 0 hk,vB]
  split
  · rename_i e
    have e':l.getD k 0=(c:Int):=by omega
    rw [←e',if_neg hx,if_pos rfl,List.length_take]
    congr 1;omega
  · rename_i e
    rw [h.val c Yd]
    split
    · rfl
    · rename_i hn
      rw [if_neg oz]
      unfold dp;rw [if_neg hn]
theorem N9.fin {l:List Int} {width:Int} {q:List Int} {k:Nat} (h:N9 l (min width 259).toNat q k) (hk:l.length≤k):ax l width=q:=by
  refine eM (d:=0) (by rw [kg,h.len]) fun i hi=>?_
  rw [kg] at hi
  rw [h.val i hi,List.take_of_length_le hk]
  simp [ax,List.getD_eq_getElem?_getD,hi]
theorem vA {l:List Int} {width:Int} {c:Nat} (h:c<(min width 259).toNat):(ax l width).getD c 0=dp (c:Int) l:=by simp [ax,List.getD_eq_getElem?_getD,h]
def ff (a b:List Int):List Int:=if a.length=b.length then bp (a.zip b) else []
def kc (a b:List Int):Int:=if a.length=b.length then (((dd (a.zip b)).length:Nat):Int) else 0
theorem MI {a b:List Int} (h:a.length=b.length):(ff a b).length=a.length:=by rw [ff,if_pos h];simp [bp,h]
theorem mM {a b:List Int} {k:Nat} (ha:k<a.length) (hb:k<b.length):(a.zip b).getD k (0,0)=(a.getD k 0,b.getD k 0):=by
  simp [List.getD_eq_getElem?_getD,ha,hb,List.getElem?_eq_getElem (show k<(a.zip b).length by simp;omega)]
structure N3 (z:List (Int×Int)) (q:List Int) (m:List ((Int×Int)×Int)) (k:Nat):Prop where
  len:q.length=z.length
  val:∀j,j<k→q.getD j 0=((ix (z.getD j (0,0)) (dd z):Nat):Int)
  map:m=uj (z.take k)
theorem N3.start (z:List (Int×Int)):N3 z (List.replicate z.length 0) [] 0:=⟨by simp,fun j h=>by omega,by simp [uj,dd]⟩
theorem vo {z:List (Int×Int)} {k:Nat} {p:Int×Int} (h:p∈dd (z.take k)):ix p (dd z)=ix p (dd (z.take k)):=by
  have:=YT (z.take k) (z.drop k) h
  rwa [List.take_append_drop] at this
theorem N3.vk {z:List (Int×Int)} {q:List Int} {m:List ((Int×Int)×Int)} {k:Nat} {p:Int×Int} (h:N3 z q m k) (hk:k<z.length) (hp:z.getD k (0,0)=p) (hs:(getM m p).isSome=true):N3 z (q.set k ((getM m p).getD 0)) m (k+1):=by
  have hl:k<q.length:=by rw [h.len];exact hk
  rw [h.map,mY] at hs
  have hm:p∈z.take k:=by
    by_cases e:p∈z.take k
    · exact e
    · rw [if_neg e] at hs;cases hs
  refine ⟨by simp [h.len],fun j hj=>?_,?_⟩
  · rw [nj hl]
    split
    · rename_i e;subst e
      rw [h.map,mY,if_pos hm,hp,vo ((dV _ _).2 hm)];rfl
    · exact h.val j oz
  · rw [cr (0,0) hk,hp,PZ hm,h.map]
theorem N3.new {z:List (Int×Int)} {q:List Int} {m:List ((Int×Int)×Int)} {k:Nat} {p:Int×Int} (h:N3 z q m k) (hk:k<z.length) (hp:z.getD k (0,0)=p) (hs:¬(getM m p).isSome=true):N3 z (q.set k ((m.length:Nat):Int)) (jN m p ((m.length:Nat):Int)) (k+1):=by
  have hl:k<q.length:=by rw [h.len];exact hk
  rw [h.map,mY] at hs
  have hm:p∉z.take k:=fun e=>by rw [if_pos e] at hs;exact hs rfl
  have hmd:p∉dd (z.take k):=fun e=>hm ((dV _ _).1 e)
  refine ⟨by simp [h.len],fun j hj=>?_,?_⟩
  · rw [nj hl]
    split
    · rename_i e;subst e
      have e1:dd (z.take (k+1))=dd (z.take k)++[p]:=by rw [cr (0,0) hk,hp,fl,if_neg hmd]
      have e2:p∈dd (z.take (k+1)):=by rw [e1];simp
      rw [hp,vo e2,e1,h.map,sH]
      rw [nV hmd]
    · exact h.val j oz
  · rw [cr (0,0) hk,hp,h.map,Fb hm]
theorem N3.fin {a b q:List Int} {m:List ((Int×Int)×Int)} {k:Nat} (h:N3 (a.zip b) q m k) (NZ:a.length=b.length) (hk:k=a.length):ff a b=q∧kc a b=((m.length:Nat):Int):=by
  have hzl:(a.zip b).length=a.length:=by simp [NZ]
  constructor
  · rw [ff,if_pos NZ]
    refine eM (d:=0) (by simp [bp,h.len]) fun i hi=>?_
    have wL:i<(a.zip b).length:=by simpa [bp] using hi
    rw [h.val i oz]
    simp only [bp,List.getD_eq_getElem?_getD,List.getElem?_map,List.getElem?_eq_getElem wL,Option.map_some,Option.getD_some]
  · rw [kc,if_pos NZ,h.map,sH,List.take_of_length_le oz]
theorem PV {l:List Int} {x:Int} (h:x∈l):bp (l++[x])=bp l++[((ix x (dd l):Nat):Int)]:=by
  have e:dd (l++[x])=dd l:=by rw [fl,if_pos ((dV l x).2 h)]
  unfold bp;rw [e,List.map_append];rfl
theorem PW {l:List Int} {x:Int} (h:x∉l):bp (l++[x])=bp l++[((dd l).length:Int)]∧(dd (l++[x])).length=(dd l).length+1:=by
  have hn:x∉dd l:=fun h9=>h ((dV l x).1 h9)
  have e:dd (l++[x])=dd l++[x]:=by rw [fl,if_neg hn]
  constructor
  · unfold bp;rw [e,List.map_append]
    congr 1
    · apply List.map_congr_left
      intro y hy
      rw [pw _ ((dV l y).2 hy)]
    · simp only [List.map_cons,List.map_nil];rw [nV hn]
  · rw [e];simp
def kE (l:List Int):Prop:=∀i,i<l.length→0≤l.getD i 0∧l.getD i 0≤(i:Int)∧l.getD (l.getD i 0).toNat 0=l.getD i 0
theorem AL {l:List Int} {i:Nat} (h:i<l.length):l.take (i+1)=l.take i++[l.getD i 0]:=by
  rw [List.take_succ_eq_append_getElem h];simp [List.getD_eq_getElem?_getD,h]
theorem getD_take {l:List Int} {i j:Nat} (h:j<i):(l.take i).getD j 0=l.getD j 0:=by
  simp [List.getD_eq_getElem?_getD,List.getElem?_take,h]
theorem A8 {l:List Int} {i:Nat} (h:i<l.length):(bp l).getD i 0=((ix (l.getD i 0) (dd l):Nat):Int):=by
  unfold bp
  simp [List.getD_eq_getElem?_getD,List.getElem?_map,List.getElem?_eq_getElem h]
theorem kE.new {l:List Int} (h:kE l) {i:Nat} (hi:i<l.length) (he:l.getD i 0=(i:Int)):l.getD i 0∉l.take i:=fun hm=>by
  obtain ⟨j,hj,e⟩:=List.mem_iff_getElem.1 hm
  have SN:j<i:=by simp at hj;omega
  have h1:=h j oz
  have e2:l.getD j 0=l.getD i 0:=by rw [←e];simp [List.getD_eq_getElem?_getD,show j<l.length by omega]
  omega
theorem kE.vk {l:List Int} (h:kE l) {i:Nat} (hi:i<l.length) (he:l.getD i 0≠(i:Int)):l.getD i 0∈l.take i∧(l.getD i 0).toNat<i∧(bp (l.take i)).getD (l.getD i 0).toNat 0=((ix (l.getD i 0) (dd (l.take i)):Nat):Int):=by
  have h1:=h i hi
  have hj:(l.getD i 0).toNat<i:=by omega
  have e:(l.take i).getD (l.getD i 0).toNat 0=l.getD i 0:=by rw [getD_take hj];exact h1.2.2
  have hl:(l.getD i 0).toNat<(l.take i).length:=by rw [List.length_take];omega
  exact ⟨by have h9:=au (l:=l.take i) (d:=0) hl;rw [e] at h9;exact h9,hj,by rw [A8 hl,e]⟩
theorem kE.sd {l:List Int} (h:kE l) {i:Nat} (hi:i<l.length) (he:l.getD i 0=(i:Int)):bp (l.take i)++[((dd (l.take i)).length:Int)]=bp (l.take (i+1))∧(dd (l.take (i+1))).length=(dd (l.take i)).length+1:=by
  rw [AL hi]
  obtain ⟨h1,h2⟩:=PW (h.new hi he)
  exact ⟨h1.symm,h2⟩
theorem kE.sb {l:List Int} (h:kE l) {i:Nat} (hi:i<l.length) (he:l.getD i 0≠(i:Int)):bp (l.take i)++[(bp (l.take i)).getD (l.getD i 0).toNat 0]=bp (l.take (i+1))∧dd (l.take (i+1))=dd (l.take i):=by
  obtain ⟨h1,h2,h3⟩:=h.vk hi he
  rw [AL hi,PV h1,h3]
  exact ⟨rfl,by rw [fl,if_pos ((dV _ _).2 h1)]⟩
theorem gE (l:List Int):(bp l).length=l.length:=by simp [bp]
theorem Qr {x:Int} :∀ {l:List Int} {k:Nat},k<l.length→l.getD k 0=x→(∀i,i<k→l.getD i 0≠x)→ix x l=k
  | y::l,0,_,h,_=>by simp at h;simp [ix,h]
  | y::l,k+1,hk,h,hn=>by
    have h0:=hn 0 oz
    simp at h0
    rw [ix,if_neg (fun e=>h0 e.symm),Qr (by simpa using hk) (by simpa using h) (fun i hi=>by simpa using hn (i+1) oz)]
theorem Bt {l:List Int} {x:Int} {k:Nat} (hk:k<l.length) (h:l.getD k 0=x) (hn:∀i,i<k→l.getD i 0≠x):dp x l=(k:Int):=by
  have hm:x∈l:=by rw [←h];exact au hk
  rw [dp,if_pos hm,Qr hk h hn]
theorem vC {l:List Int} {x:Int} (hn:∀i,i<l.length→l.getD i 0≠x):dp x l= -1:=by
  rw [dp,if_neg]
  intro h
  obtain ⟨i,hi,rfl⟩:=List.mem_iff_getElem.1 h
  exact hn i hi (by simp [List.getD_eq_getElem?_getD,List.getElem?_eq_getElem hi])
def N6 (l:List Int) (c aa y:Int):Prop:=(aa= -1∨(y<aa∧aa<(l.length:Int)∧l.getD aa.toNat 0=c))∧∀i:Nat,y<(i:Int)→i<l.length→(aa= -1∨(i:Int)<aa)→l.getD i 0≠c
theorem N6.start (l:List Int) (c:Int):N6 l c (-1) ((l.length:Int)-1):=⟨.inl rfl,fun i h1 h2=>by omega⟩
theorem N6.hit {l:List Int} {c aa y:Int} (h:N6 l c aa y) (h0:0≤y) (hy:y<(l.length:Int)) (he:l.getD y.toNat 0=c):N6 l c y (y-1):=⟨.inr ⟨by omega,hy,he⟩,fun i h1 h2 h3=>by omega⟩
theorem N6.P7 {l:List Int} {c aa y:Int} (h:N6 l c aa y) (h0:0≤y) (he:l.getD y.toNat 0≠c):N6 l c aa (y-1):=by
  refine ⟨by rcases h.1 with h1|h1;exact .inl h1;exact .inr ⟨by omega,h1.2⟩,fun i h1 h2 h3=>?_⟩
  by_cases e:(i:Int)=y
  · have:i=y.toNat:=by omega
    subst this;exact he
  · exact h.2 i oz h2 h3
theorem N6.fin {l:List Int} {c aa y:Int} (h:N6 l c aa y) (hy:y<0) (h0: -1≤y):aa=dp c l:=by
  rcases h.1 with h1|⟨h1,h2,h3⟩
  · rw [vC (fun i hi=>h.2 i oz hi (.inl h1))];exact h1
  · rw [Bt (k:=aa.toNat) oz h3 (fun i hi=>h.2 i oz oz (.inr oz))];omega
def l9 (l:List Int) (k:Nat):List Int:=List.map (fun c:Nat=>dp (c:Int) l) (List.range k)
theorem CQ (l:List Int) (k:Nat):l9 l k++[dp (k:Int) l]=l9 l (k+1):=by simp [l9,List.range_succ]
theorem FV (l:List Int) (k:Nat):(l9 l k).length=k:=by simp [l9]
theorem vz {l:List Int} {w:Int} {k:Nat} (h1:(k:Int)≤w∨k=0) (h2:k≤259) (h3:¬((k:Int)<w∧(k:Int)<259)):ax l w=l9 l k:=by
  unfold ax l9
  congr 2;omega
structure Lu (d:ar) (f:List Int) (n:Nat):Prop where
  len:f.length=n
  val:∀i,i<n→0≤f.getD i 0∧f.getD i 0≤(i:Int)∧¬As d i (f.getD i 0).toNat∧∀k:Nat,(k:Int)<f.getD i 0→As d i k
theorem yQ {d:ar} {i k:Nat} (h:As d i k):As d k i:=by obtain ⟨t,h⟩:=h;exact ⟨t,lr h⟩
theorem UJ {d:ar} {i:Nat} :¬As d i i:=fun ⟨_,h⟩=>pF h
theorem Q6 {d:ar} {i k:Nat} (j:Nat) (h:As d i k):As d i j∨As d j k:=by
  obtain ⟨t,h⟩:=h
  rcases iS j h with h|h
  · exact .inl ⟨t,h⟩
  · exact .inr ⟨t,h⟩
theorem Lu.start (d:ar):Lu d [] 0:=⟨rfl,fun i h=>by omega⟩
theorem Lu.first {d:ar} {f:List Int} {n:Nat} (h:Lu d f n):kE f:=fun i hi=>by
  rw [h.len] at hi
  have h1:=h.val i hi
  refine ⟨h1.1,h1.2.1,?_⟩
  have h2:=h.val (f.getD i 0).toNat oz
  rcases Int.lt_trichotomy (f.getD (f.getD i 0).toNat 0) (f.getD i 0) with h3|h3|h3
  · exfalso
    have h4:=h1.2.2.2 (f.getD (f.getD i 0).toNat 0).toNat oz
    rcases Q6 (f.getD i 0).toNat h4 with h5|h5
    · exact h1.2.2.1 h5
    · exact h2.2.2.1 h5
  · exact h3
  · omega
def Sw (d:ar) (i:Nat) (at_:Int) (y:Int):Prop:=(y<at_∧at_≤(i:Int))∧¬As d i at_.toNat∧∀k:Nat,y<(k:Int)→(k:Int)<at_→As d i k
theorem Sw.start (d:ar) (i:Nat):Sw d i (i:Int) ((i:Int)-1):=⟨by omega,by rw [Int.toNat_natCast];exact UJ,fun k h1 h2=>by omega⟩
theorem Sw.hit {d:ar} {i:Nat} {at_ y:Int} (h:Sw d i at_ y) (hy:0≤y) (hd:¬As d i y.toNat):Sw d i y (y-1):=⟨by have:=h.1;omega,hd,fun k h1 h2=>by omega⟩
theorem Sw.P7 {d:ar} {i:Nat} {at_ y:Int} (h:Sw d i at_ y) (hy:0≤y) (hd:As d i y.toNat):Sw d i at_ (y-1):=by
  refine ⟨by have:=h.1;omega,h.2.1,fun k h1 h2=>?_⟩
  by_cases e:(k:Int)=y
  · have:k=y.toNat:=by omega
    subst this;exact hd
  · exact h.2.2 k oz h2
theorem Lu.step {d:ar} {f:List Int} {n:Nat} {at_ y:Int} (h:Lu d f n) (hk:Sw d n at_ y) (hy:y<0) (Z9: -1≤y):Lu d (f++[at_]) (n+1):=by
  refine ⟨by simp [h.len],fun i hi=>?_⟩
  by_cases e:i=n
  · subst e
    have e2:(f++[at_]).getD i 0=at_:=by
      simp [List.getD_eq_getElem?_getD,List.getElem?_append,h.len]
    rw [e2]
    exact ⟨by have:=hk.1;omega,hk.1.2,hk.2.1,fun k tK=>hk.2.2 k oz tK⟩
  · have e2:(f++[at_]).getD i 0=f.getD i 0:=by
      simp only [List.getD_eq_getElem?_getD,List.getElem?_append,h.len];rw [if_pos oz]
    rw [e2];exact h.val i oz
theorem Ol {p:Prop} (h:p:=by rw [List.length_take];omega):p:=h
section
variable {α β:Type} [DecidableEq α] [DecidableEq β]
theorem A5 {l:List α} {x:α} (h:x∈l):bp (l++[x])=bp l++[((ix x (dd l):Nat):Int)]∧dd (l++[x])=dd l:=by
  have e:dd (l++[x])=dd l:=by rw [fl,if_pos ((dV l x).2 h)]
  refine ⟨?_,e⟩
  unfold bp;rw [e,List.map_append];rfl
theorem A6 {l:List α} {x:α} (h:x∉l):bp (l++[x])=bp l++[(((dd l).length:Nat):Int)]∧dd (l++[x])=dd l++[x]:=by
  have hx:x∉dd l:=fun h9=>h ((dV l x).1 h9)
  have e:dd (l++[x])=dd l++[x]:=by rw [fl,if_neg hx]
  refine ⟨?_,e⟩
  unfold bp;rw [e,List.map_append]
  congr 1
  · refine List.map_congr_left fun y hy=>?_
    rw [pw [x] ((dV l y).2 hy)]
  · simp only [List.map_cons,List.map_nil];rw [nV hx]
theorem sE (d:α) {l:List α} {i:Nat} (h:i<l.length):(bp l).getD i 0=((ix (l.getD i d) (dd l):Nat):Int):=by
  unfold bp
  rw [List.getD_eq_getElem?_getD,List.getElem?_map,List.getElem?_eq_getElem h,List.getD_eq_getElem?_getD,List.getElem?_eq_getElem h];rfl
theorem ui (d:α) {l:List α} {i j:Nat} (hi:i<l.length) (hj:j<l.length):(bp l).getD i 0=(bp l).getD j 0↔l.getD i d=l.getD j d:=by
  rw [sE d hi,sE d hj]
  have m1:l.getD i d∈dd l:=(dV _ _).2 (au hi)
  have m2:l.getD j d∈dd l:=(dV _ _).2 (au hj)
  constructor
  · intro h;exact Qq m1 m2 oz
  · intro h;rw [h]
theorem gw (d:α) {l:List α} {i:Nat} (h:i<l.length):l.take (i+1)=l.take i++[l.getD i d]:=by
  rw [List.take_add_one,List.getElem?_eq_getElem h,List.getD_eq_getElem?_getD,List.getElem?_eq_getElem h];rfl
theorem jT (d:α) {l:List α} {i j:Nat} (h:j<i):(l.take i).getD j d=l.getD j d:=by
  rw [List.getD_eq_getElem?_getD,List.getElem?_take_of_lt h,List.getD_eq_getElem?_getD]
theorem yd (d:α) (e:β) {x:List α} {y:List β} (hl:x.length=y.length) (h:∀i j,i<x.length→j<x.length→(x.getD i d=x.getD j d↔y.getD i e=y.getD j e)):bp x=bp y∧(dd x).length=(dd y).length:=by
  have key:∀n,n≤x.length→bp (x.take n)=bp (y.take n)∧(dd (x.take n)).length=(dd (y.take n)).length:=by
    intro n
    induction n with
    | zero=>intro _;exact ⟨rfl,rfl⟩
    | succ n ih=>
      intro hn
      obtain ⟨i1,i2⟩:=ih oz
      rw [gw d (show n<x.length by omega),gw e (show n<y.length by omega)]
      have rz:x.getD n d∈x.take n↔y.getD n e∈y.take n:=by
        constructor
        · intro hm
          obtain ⟨i,hi,he⟩:=List.mem_iff_getElem.1 hm
          have NY:i<n:=by rw [List.length_take] at hi;omega
          have e1:x.getD i d=x.getD n d:=by
            rw [←he,←jT d NY,List.getD_eq_getElem?_getD,List.getElem?_eq_getElem hi];rfl
          have:=(h i n oz oz).1 e1
          rw [←this,←jT e NY]
          exact au Ol
        · intro hm
          obtain ⟨i,hi,he⟩:=List.mem_iff_getElem.1 hm
          have NY:i<n:=by rw [List.length_take] at hi;omega
          have e1:y.getD i e=y.getD n e:=by
            rw [←he,←jT e NY,List.getD_eq_getElem?_getD,List.getElem?_eq_getElem hi];rfl
          have:=(h i n oz oz).2 e1
          rw [←this,←jT d NY]
          exact au Ol
      by_cases hm:x.getD n d∈x.take n
      · obtain ⟨a1,a2⟩:=A5 hm
        obtain ⟨b1,b2⟩:=A5 (rz.1 hm)
        refine ⟨?_,by rw [a2,b2,i2]⟩
        rw [a1,b1,i1]
        obtain ⟨i,hi,he⟩:=List.mem_iff_getElem.1 hm
        have NY:i<n:=by rw [List.length_take] at hi;omega
        have hy:i<(y.take n).length:=by rw [List.length_take];omega
        have e1:(x.take n).getD i d=x.getD n d:=by rw [List.getD_eq_getElem?_getD,List.getElem?_eq_getElem hi];exact he
        have e2:(y.take n).getD i e=y.getD n e:=by
          rw [jT e NY];exact (h i n oz oz).1 (by rw [←jT d NY];exact e1)
        have q1:=sE d hi
        have q2:=sE e hy
        rw [e1] at q1;rw [e2] at q2
        rw [←q1,←q2,i1]
      · obtain ⟨a1,a2⟩:=A6 hm
        obtain ⟨b1,b2⟩:=A6 (fun h9=>hm (rz.2 h9))
        exact ⟨by rw [a1,b1,i1,i2],by rw [a2,b2,List.length_append,List.length_append,i2];rfl⟩
  have:=key x.length (Nat.le_refl _)
  rw [List.take_length,hl,List.take_length] at this;exact this
theorem p8 (l:List α):(bp l).length=l.length:=by simp [bp]
theorem A7 (d:α) (l:List α):bp (bp l)=bp l∧(dd (bp l)).length=(dd l).length:=
  yd 0 d (p8 l) (fun i j hi hj=>by rw [p8] at hi hj;exact ui d hi hj)
end
def nN (st:List ay) (k:Nat) (a b:Nat):Prop:=∀m,m<k→(st.getD m aq).set.has a=(st.getD m aq).set.has b
def rP (st:List ay) (k:Nat) (a b:Nat):Prop:=a=b∨(a<256∧b<256∧nN st k a b)
theorem rP.refl (st:List ay) (k a:Nat):rP st k a a:= .inl rfl
theorem rP.symm {st:List ay} {k a b:Nat} (h:rP st k a b):rP st k b a:=by
  rcases h with h|⟨h1,h2,h3⟩
  · exact .inl h.symm
  · exact .inr ⟨h2,h1,fun m hm=>(h3 m hm).symm⟩
theorem rP.trans {st:List ay} {k a b c:Nat} (h:rP st k a b) (h':rP st k b c):rP st k a c:=by
  rcases h with rfl|⟨h1,h2,h3⟩
  · exact h'
  · rcases h' with rfl|⟨g1,g2,g3⟩
    · exact .inr ⟨h1,h2,h3⟩
    · exact .inr ⟨h1,g2,fun m hm=>(h3 m hm).trans (g3 m hm)⟩
structure rO (st:List ay) (k:Nat) (c:List Int) (w:Int):Prop where
  len:c.length=259
  alk:∀i j,i<259→j<259→(c.getD i 0=c.getD j 0↔rP st k i j)
  num:bp c=c
  wid:w=(((dd c).length:Nat):Int)
def Au (st:List ay) (c:List Int) (w:Int):Prop:=rO st st.length c w
theorem Au.uniq {st:List ay} {c c':List Int} {w w':Int} (h:Au st c w) (h':Au st c' w'):c=c'∧w=w':=by
  have:=yd (0:Int) (0:Int) (h.len.trans h'.len.symm) (fun i j hi hj=>by rw [h.len] at hi hj;exact (h.alk i j hi hj).trans (h'.alk i j hi hj).symm)
  rw [h.num,h'.num] at this
  exact ⟨this.1,by rw [h.wid,h'.wid,this.2]⟩
theorem Qo {a b:List Int} (h:a.length=b.length):ff a b=bp (a.zip b)∧kc a b=(((dd (a.zip b)).length:Nat):Int):=⟨if_pos h,if_pos h⟩
theorem rO.Kp {st:List ay} {k:Nat} {a b:List Int} (ha:a.length=259) (hb:b.length=259) (h:∀i j,i<259→j<259→((a.getD i 0=a.getD j 0∧b.getD i 0=b.getD j 0)↔rP st k i j)):rO st k (ff a b) (kc a b):=by
  obtain ⟨e1,e2⟩:=Qo (ha.trans hb.symm)
  have hz:(a.zip b).length=259:=by rw [List.length_zip];omega
  obtain ⟨n1,n2⟩:=A7 (0,0) (a.zip b)
  rw [e1,e2]
  refine ⟨(p8 _).trans hz,fun i j hi hj=>?_,n1,by rw [n2]⟩
  rw [ui (0,0) oz oz,mM oz oz,mM oz oz,Prod.mk.injEq]
  exact h i j hi hj
theorem Ew (n i:Nat):(List.replicate n (0:Int)).getD i 0=0:=by
  rw [List.getD_eq_getElem?_getD,List.getElem?_replicate];split<;>rfl
def vP (b:List Int) (k:Nat):Prop:=b.length=259∧∀i,i<259→b.getD i 0=if 256≤i∧i<256+k then ((i-256+1:Nat):Int) else 0
theorem vP.start:vP (List.replicate 259 0) 0:=⟨List.length_replicate ..,fun i hi=>by rw [if_neg oz];exact Ew 259 i⟩
theorem Bp {q:List Int} {i j:Nat} {b:Int} (hi:i<q.length):(q.set i b).getD j 0=if i=j then b else q.getD j 0:=by
  rw [List.getD_eq_getElem?_getD,List.getElem?_set]
  by_cases e:i=j
  · rw [if_pos e,if_pos e,if_pos hi];rfl
  · rw [if_neg e,if_neg e,←List.getD_eq_getElem?_getD]
theorem vP.step {b:List Int} {k:Nat} {v:Int} (h:vP b k) (hk:k<3) (hv:v=((k+1:Nat):Int)):vP (b.set (256+k) v) (k+1):=by
  refine ⟨by rw [List.length_set];exact h.1,fun i hi=>?_⟩
  rw [Bp (by rw [h.1];omega),h.2 i hi]
  by_cases e:256+k=i
  · rw [if_pos e,if_pos oz,hv];omega
  · rw [if_neg e]
    by_cases g:256≤i∧i<256+k
    · rw [if_pos g,if_pos oz]
    · rw [if_neg g,if_neg oz]
theorem rO.base {st:List ay} {b:List Int} (h:vP b 3):rO st 0 (ff b b) (kc b b):=by
  refine rO.Kp h.1 h.1 (fun i j hi hj=>?_)
  rw [h.2 i hi,h.2 j hj]
  constructor
  · rintro ⟨h1,_⟩
    by_cases gi:256≤i∧i<256+3<;>by_cases gj:256≤j∧j<256+3
    · rw [if_pos gi,if_pos gj] at h1;exact .inl oz
    · rw [if_pos gi,if_neg gj] at h1;omega
    · rw [if_neg gi,if_pos gj] at h1;omega
    · exact .inr ⟨by omega,by omega,fun m hm=>by omega⟩
  · rintro (rfl|⟨h1,h2,_⟩)
    · exact ⟨rfl,rfl⟩
    · rw [if_neg oz,if_neg oz];exact ⟨rfl,rfl⟩
def Vr (s:Bs) (v:List Int) (k:Nat):Prop:=v.length=259∧∀i,i<259→v.getD i 0=if i∈(bK s).take k then 1 else 0
theorem Vr.start (s:Bs):Vr s (List.replicate 259 0) 0:=⟨List.length_replicate ..,fun i hi=>by rw [Ew,List.take_zero,if_neg (by simp)]⟩
theorem Vr.step {s:Bs} {v:List Int} {k:Nat} (h:Vr s v k) (hk:k<(bK s).length):Vr s (v.set ((bK s).getD k 0) 1) (k+1):=by
  have hb:=(fj.1 (au (d:=0) hk)).1
  refine ⟨by rw [List.length_set];exact h.1,fun i hi=>?_⟩
  rw [Bp (by rw [h.1];omega),h.2 i hi,gw 0 hk]
  by_cases e:(bK s).getD k 0=i
  · rw [if_pos e,if_pos (by rw [←e];simp)]
  · rw [if_neg e]
    by_cases g:i∈(bK s).take k
    · rw [if_pos g,if_pos (List.mem_append_left _ g)]
    · rw [if_neg g,if_neg]
      intro h9
      rcases List.mem_append.1 h9 with h8|h8
      · exact g h8
      · exact e (List.mem_singleton.1 h8).symm
theorem Vr.done {s:Bs} {v:List Int} {k:Nat} (h:Vr s v k) (hk:¬k<(bK s).length):∀i,i<259→v.getD i 0=if i<256∧s.has i=true then 1 else 0:=by
  intro i hi
  rw [h.2 i hi,List.take_of_length_le oz]
  by_cases g:i∈bK s
  · rw [if_pos g,if_pos (fj.1 g)]
  · rw [if_neg g,if_neg (fun h9=>g (fj.2 h9))]
theorem rO.skip {st:List ay} {k:Nat} {c:List Int} {w:Int} (h:rO st k c w) (hs:(st.getD k aq).set=Bs.zero):rO st (k+1) c w:=
  ⟨h.len,fun i j hi hj=>(h.alk i j hi hj).trans (by
    unfold rP nN
    constructor
    · rintro (e|⟨h1,h2,h3⟩)
      · exact .inl e
      · refine .inr ⟨h1,h2,fun m hm=>?_⟩
        by_cases e:m=k
        · subst e;rw [hs,eo,eo]
        · exact h3 m oz
    · rintro (e|⟨h1,h2,h3⟩)
      · exact .inl e
      · exact .inr ⟨h1,h2,fun m hm=>h3 m oz⟩),h.num,h.wid⟩
theorem rO.join {st:List ay} {k:Nat} {c v:List Int} {w:Int} (h:rO st k c w) (hl:v.length=259) (hv:∀i,i<259→v.getD i 0=if i<256∧(st.getD k aq).set.has i=true then 1 else 0):rO st (k+1) (ff c v) (kc c v):=by
  refine rO.Kp h.len hl (fun i j hi hj=>?_)
  rw [h.alk i j hi hj,hv i hi,hv j hj]
  unfold rP nN
  constructor
  · rintro ⟨e|⟨h1,h2,h3⟩,h4⟩
    · exact .inl e
    · refine .inr ⟨h1,h2,fun m hm=>?_⟩
      by_cases e:m=k
      · subst e
        rcases KW:(st.getD m aq).set.has i with _|_<;>rcases zB:(st.getD m aq).set.has j with _|_<;>simp_all
      · exact h3 m oz
  · rintro (rfl|⟨h1,h2,h3⟩)
    · exact ⟨.inl rfl,rfl⟩
    · refine ⟨.inr ⟨h1,h2,fun m hm=>h3 m oz⟩,?_⟩
      have:=h3 k oz
      simp only [h1,h2,this,true_and]
structure Lw (st:List ay) (f hs:List Int) (n:Nat):Prop where
  len:f.length=n
  at_:∀i,i<n→0≤f.getD i 0∧f.getD i 0≤(i:Int)∧rP st st.length (f.getD i 0).toNat i∧f.getD i 0∈hs
  head:∀h,h∈hs→0≤h∧h<(n:Int)∧f.getD h.toNat 0=h
  part:∀h h',h∈hs→h'∈hs→rP st st.length h.toNat h'.toNat→h=h'
theorem Lw.start (st:List ay):Lw st [] [] 0:=⟨rfl,fun i h=>by omega,fun h hh=>by (cases hh),fun h h' hh=>by (cases hh)⟩
theorem lI (l:List Int) (x:Int) (j:Nat):(l++[x]).getD j 0=if j<l.length then l.getD j 0 else if j=l.length then x else 0:=by
  simp only [List.getD_eq_getElem?_getD]
  rcases Nat.lt_trichotomy j l.length with h|h|h
  · rw [if_pos h,List.getElem?_append_left h]
  · rw [if_neg oz,if_pos h,h];simp
  · rw [if_neg oz,if_neg oz,List.getElem?_append_right oz,List.getElem?_eq_none gv];rfl
theorem Lw.vk {st:List ay} {f hs:List Int} {n:Nat} {x:Int} (h:Lw st f hs n) (hx:x∈hs) (ha:rP st st.length x.toNat n):Lw st (f++[x]) hs (n+1):=by
  have hh:=h.head x hx
  refine ⟨by rw [List.length_append,h.len];rfl,fun i hi=>?_,fun y hy=>?_,h.part⟩
  · rw [lI,h.len]
    by_cases e:i<n
    · rw [if_pos e];exact h.at_ i e
    · obtain rfl:i=n:=by omega
      rw [if_neg e,if_pos rfl];exact ⟨hh.1,by omega,ha,hx⟩
  · have:=h.head y hy
    rw [lI,h.len,if_pos oz];exact ⟨this.1,by omega,this.2.2⟩
theorem Lw.new {st:List ay} {f hs:List Int} {n:Nat} (h:Lw st f hs n) (hn:∀x,x∈hs→¬rP st st.length x.toNat n):Lw st (f++[(n:Int)]) (hs++[(n:Int)]) (n+1):=by
  refine ⟨by rw [List.length_append,h.len];rfl,fun i hi=>?_,fun y hy=>?_,fun y y' hy hy' ha=>?_⟩
  · rw [lI,h.len]
    by_cases e:i<n
    · rw [if_pos e]
      have:=h.at_ i e
      exact ⟨this.1,this.2.1,this.2.2.1,List.mem_append_left _ this.2.2.2⟩
    · obtain rfl:i=n:=by omega
      rw [if_neg e,if_pos rfl];exact ⟨by omega,by omega,.inl oz,by simp⟩
  · rcases List.mem_append.1 hy with h1|h1
    · have:=h.head y h1
      rw [lI,h.len,if_pos oz];exact ⟨this.1,by omega,this.2.2⟩
    · rw [List.mem_singleton.1 h1]
      rw [lI,h.len,if_neg oz,if_pos oz];exact ⟨by omega,by omega,rfl⟩
  · rcases List.mem_append.1 hy with h1|h1<;>rcases List.mem_append.1 hy' with h2|h2
    · exact h.part y y' h1 h2 ha
    · rw [List.mem_singleton.1 h2,Int.toNat_natCast] at ha;exact absurd ha (hn y h1)
    · rw [List.mem_singleton.1 h1,Int.toNat_natCast] at ha;exact absurd ha.symm (hn y' h2)
    · rw [List.mem_singleton.1 h1,List.mem_singleton.1 h2]
theorem Lw.first {st:List ay} {f hs:List Int} {n:Nat} (h:Lw st f hs n):kE f:=fun i hi=>by
  rw [h.len] at hi
  have h1:=h.at_ i hi
  exact ⟨h1.1,h1.2.1,(h.head _ h1.2.2.2).2.2⟩
theorem Lw.cls {st:List ay} {f hs:List Int} (h:Lw st f hs 259):Au st (bp f) (((dd f).length:Nat):Int):=by
  obtain ⟨n1,n2⟩:=A7 (0:Int) f
  refine ⟨(p8 f).trans h.len,fun i j hi hj=>?_,n1,by rw [n2]⟩
  rw [ui (0:Int) (by rw [h.len];exact hi) (by rw [h.len];exact hj)]
  have hi1:=h.at_ i hi
  have hj1:=h.at_ j hj
  constructor
  · intro e
    exact hi1.2.2.1.symm.trans (e▸hj1.2.2.1)
  · intro ha
    exact h.part _ _ hi1.2.2.2 hj1.2.2.2 ((hi1.2.2.1.trans ha).trans hj1.2.2.1.symm)
instance (st:List ay) (k a b:Nat):Decidable (rP st k a b):=by unfold rP nN;infer_instance
def Dt (st:List ay) (a b:Nat):Bool:=decide (rP st st.length a b)
theorem NC (st:List ay) (a:Nat):Dt st a a=true:=decide_eq_true (rP.refl st st.length a)
theorem Gz {st:List ay} {a b:Nat} (h:a≠b) (h2:a>255∨b>255):Dt st a b=false:=by
  unfold Dt;rw [decide_eq_false_iff_not]
  rintro (h9|⟨h3,h4,_⟩)<;>omega
theorem Vj {st:List ay} {a b k:Nat} (h:a≠b) (hk:k<st.length) (hs:(st.getD k aq).set.has a≠(st.getD k aq).set.has b):Dt st a b=false:=by
  unfold Dt;rw [decide_eq_false_iff_not]
  rintro (h9|⟨_,_,h5⟩)
  · exact h h9
  · exact hs (h5 k hk)
theorem R8 {st:List ay} {a b k:Nat} (ha:a<256) (hb:b<256) (h:nN st k a b) (hk:¬k<st.length):Dt st a b=true:=
  decide_eq_true (.inr ⟨ha,hb,fun m hm=>h m oz⟩)
theorem nN.step {st:List ay} {k a b:Nat} (h:nN st k a b) (hs:¬(st.getD k aq).set.has a≠(st.getD k aq).set.has b):nN st (k+1) a b:=fun m hm=>by
  by_cases e:m=k
  · subst e;exact Classical.byContradiction hs
  · exact h m oz
theorem zd {st:List ay} {a b:Nat} :Dt st a b=true↔rP st st.length a b:=by unfold Dt;rw [decide_eq_true_eq]
def Sq (st:List ay) (hs:List Int) (n k:Nat):Prop:=∀j,j<k→¬rP st st.length (hs.getD j 0).toNat n
theorem Sq.all {st:List ay} {hs:List Int} {n k:Nat} (h:Sq st hs n k) (hk:¬k<hs.length):∀x,x∈hs→¬rP st st.length x.toNat n:=fun x hx=>by
  obtain ⟨j,hj,rfl⟩:=List.mem_iff_getElem.1 hx
  have:=h j oz
  rwa [show hs.getD j 0=hs[j] by rw [List.getD_eq_getElem?_getD,List.getElem?_eq_getElem hj];rfl] at this
theorem Au.k8 {st:List ay} {c:List Int} {w:Int} (h:Au st c w):1≤w∧w≤259∧∀i,i<259→0≤c.getD i 0∧c.getD i 0<w:=by
  have h1:=I0 c
  have hm:∀i,i<259→c.getD i 0∈dd c:=fun i hi=>(dV _ _).2 (au (by rw [h.len];exact hi))
  have h0:=List.length_pos_of_mem (hm 0 oz)
  rw [h.len] at h1
  refine ⟨by rw [h.wid];omega,by rw [h.wid];omega,fun i hi=>?_⟩
  have e:=sE (0:Int) (l:=c) (i:=i) (by rw [h.len];exact hi)
  rw [h.num] at e
  have:=pv (hm i hi)
  rw [e,h.wid];omega
def MG (s:Int):List Int:=[IntKind.u8.wrap (s.fdiv (2^(min (8:Int).toNat 64))),IntKind.u8.wrap s]
def vY (to:List Int):List Int:=to.flatMap MG
def ME (to:List Int):ByteArray:=strOfNums (vY to)
theorem MF {to:List Int} {k:Nat} (h:k<to.length):vY (to.take k)++MG (to.getD k 0)=vY (to.take (k+1)):=by
  rw [cr 0 h];simp [vY]
theorem yq {s:Int} (h:0≤s∧s<65536):MG s=[s/256,s%256]:=by
  have e1:(2:Int)^(min (8:Int).toNat 64)=256:=by decide
  have e2:s.fdiv 256=s/256:=Int.fdiv_eq_ediv_of_nonneg _ dF
  have e3:IntKind.u8.wrap (s/256)=s/256:=by
    show (s/256)%(2^8:Int)=_
    have:(2:Int)^8=256:=by decide
    rw [this];omega
  have e4:IntKind.u8.wrap s=s%256:=by
    show s%(2^8:Int)=_
    have:(2:Int)^8=256:=by decide
    rw [this]
  unfold MG
  rw [e1,e2,e3,e4]
theorem zN {a b:List Int} (ha:∀x,x∈a→0≤x∧x<256) (hb:∀x,x∈b→0≤x∧x<256) (h:strOfNums a=strOfNums b):a=b:=by
  have h1:a.map (fun n=>UInt8.ofNat n.toNat)=b.map (fun n=>UInt8.ofNat n.toNat):=by
    have:=congrArg (fun s:ByteArray=>s.data.toList) h
    simpa [strOfNums] using this
  have hl:a.length=b.length:=by have:=congrArg List.length h1;simpa using this
  refine eM (d:=0) hl fun i hi=>?_
  have e:=congrArg (fun l:List UInt8=>(l[i]?).map UInt8.toNat) h1
  simp only [List.getElem?_map,List.getElem?_eq_getElem hi,List.getElem?_eq_getElem (hl▸hi),Option.map_some,Option.some.injEq] at e
  have xa:=ha _ (List.getElem_mem hi)
  have xb:=hb _ (List.getElem_mem (hl▸hi))
  simp only [UInt8.toNat_ofNat'] at e
  simp only [List.getD_eq_getElem?_getD,List.getElem?_eq_getElem hi,List.getElem?_eq_getElem (hl▸hi),Option.getD_some]
  omega
def W4 (to:List Int):Prop:=∀x,x∈to→0≤x∧x<65536
theorem Qk {a b:List Int} (ha:W4 a) (hb:W4 b) (h:ME a=ME b):a=b:=by
  have bd:∀ {l:List Int},W4 l→∀x,x∈vY l→0≤x∧x<256:=by
    intro l hl x hx
    simp only [vY,List.mem_flatMap] at hx
    obtain ⟨s,hs,hx⟩:=hx
    have hb:=hl s hs
    rw [yq hb] at hx
    simp only [List.mem_cons,List.not_mem_nil,or_false] at hx
    rcases hx with rfl|rfl<;>omega
  have h1:vY a=vY b:=zN (bd ha) (bd hb) h
  clear h
  induction a generalizing b with
  | nil=>
    cases b with
    | nil=>rfl
    | cons y b=>simp [vY,MG] at h1
  | cons x a ih=>
    cases b with
    | nil=>simp [vY,MG] at h1
    | cons y b=>
      have hx:=ha x (by simp)
      have hy:=hb y (by simp)
      simp only [vY,List.flatMap_cons,yq hx,yq hy,List.cons_append,List.nil_append,List.cons.injEq] at h1
      have e:x=y:=by omega
      rw [e,ih (fun z hz=>ha z (by simp [hz])) (fun z hz=>hb z (by simp [hz])) h1.2.2]
theorem k4 {d:ar} (hr:aN d=true) {q b:Int} (h0:0≤q) (h1:q<(d.acc.length:Int)) (hb:0≤b∧b<259):0≤bA d q b∧bA d q b<(d.acc.length:Int):=by
  have hs:=jM hr hb.1 hb.2
  have hi:=dS hr h0 h1 hs.2.1 hs.2.2.1
  exact ⟨hi.2.2.2.1,hi.2.2.2.2⟩
theorem yf:∀(N:Nat) (l:List Nat),l.Nodup→(∀x,x∈l→x<N)→l.length≤N
  | 0,l,_,hb=>by
    cases l with
    | nil=>simp
    | cons x l=>exact absurd (hb x (by simp)) oz
  | N+1,l,hn,hb=>by
    by_cases hN:N∈l
    · have h1:=yf N (l.erase N) (hn.erase N) (fun x hx=>by
        have h2:=(hn.mem_erase_iff).1 hx
        have h3:=hb x h2.2
        have h4:=h2.1
        omega)
      rw [List.length_erase_of_mem hN] at h1;omega
    · have h1:=yf N l hn (fun x hx=>by
        have h3:=hb x hx
        have h4:x≠N:=fun e=>hN (e▸hx)
        omega)
      omega
theorem B0 {d:ar} :∀(w:List Int) (k:Nat) (q:Int),(∀c,c∈w→0≤c∧c<259)→k≤w.length→eQ d w k q=(w.drop k).foldl (bA d) q:=by
  intro w k q hw hk
  induction hm:w.length-k generalizing k q with
  | zero=>rw [vh oz,List.drop_eq_nil_of_le oz];rfl
  | succ m ih=>
    have cX:k<w.length:=by omega
    have hc:=hw (w.getD k 0) (au cX)
    have e:w.drop k=w[k]::w.drop (k+1):=List.drop_eq_getElem_cons cX
    have e2:w.getD k 0=w[k]:=by simp [List.getD_eq_getElem?_getD,List.getElem?_eq_getElem cX]
    rw [sl cX hc.1 hc.2,ih (k+1) _ oz oz,e,List.foldl_cons,←e2]
    rfl
theorem L2 {d:ar} (hr:aN d=true) {s:Int} (h0:0≤s∧s<(d.acc.length:Int)) {w:List Int} (hw:∀c,c∈w→0≤c∧c<259):o6 d s w=w.foldl (bA d) s:=by
  rw [J6 (by rw [hr];simp) h0.1 h0.2,B0 w 0 s hw oz];simp
theorem FR {d:ar} (hr:aN d=true):∀(w:List Int) (s:Int),0≤s∧s<(d.acc.length:Int)→(∀c,c∈w→0≤c∧c<259)→0≤w.foldl (bA d) s∧w.foldl (bA d) s<(d.acc.length:Int)
  | [],s,h,_=>h
  | c::w,s,h,hw=>FR hr w _ (k4 hr h.1 h.2 (hw c (by simp))) (fun x hx=>hw x (by simp [hx]))
theorem oq {d:ar} (hr:aN d=true) {w:List Int} (hw:∀c,c∈w→0≤c∧c<259):jx d w=d.acc.getD (w.foldl (bA d) d.start).toNat false:=by
  have hs:=(bo.1 hr).1.2.2.2.2.2.2
  have h1:=L2 hr hs hw
  have h2:=FR hr w d.start hs hw
  rw [ot (by rw [h1];omega),h1]
theorem A4 {α:Type} [DecidableEq α] {l:List α} {c:Nat} (h:c<(dd l).length):∃i,i<l.length∧(bp l).getD i 0=(c:Int):=by
  have hm:(dd l)[c]∈l:=(dV l _).1 (List.getElem_mem h)
  obtain ⟨i,hi,e⟩:=List.mem_iff_getElem.1 hm
  refine ⟨i,hi,?_⟩
  simp only [bp,List.getD_eq_getElem?_getD,List.getElem?_map,List.getElem?_eq_getElem hi,Option.map_some,Option.getD_some,e]
  congr 1
  have rQ:=Ra l
  have key:∀(m:List α) (c:Nat) (hc:c<m.length),m.Nodup→ix m[c] m=c:=by
    intro m
    induction m with
    | nil=>intro c hc;simp at hc
    | cons y m ih=>
      intro c hc hn
      cases c with
      | zero=>simp [ix]
      | succ c=>
        have GV:c<m.length:=by simpa using hc
        have NX:=List.nodup_cons.1 hn
        simp only [List.getElem_cons_succ,ix]
        rw [if_neg (fun e=>NX.1 (by rw [←e];exact List.getElem_mem GV)),ih c GV NX.2]
  exact key (dd l) c h rQ
def okW (w:List Int):Prop:=∀c,c∈w→0≤c∧c<259
def kh (d:ar) (s:Int) (w:List Int):Bool:=d.acc.getD (w.foldl (bA d) s).toNat false
def pQ (d:ar) (s:Int) (e:ar) (t:Int):Prop:=∀w,okW w→kh d s w=kh e t w
theorem pQ.refl (d:ar) (s:Int):pQ d s d s:=fun _ _=>rfl
theorem pQ.symm {d e:ar} {s t:Int} (h:pQ d s e t):pQ e t d s:=fun w hw=>(h w hw).symm
theorem pQ.trans {d e f:ar} {s t u:Int} (h:pQ d s e t) (k:pQ e t f u):pQ d s f u:=fun w hw=>(h w hw).trans (k w hw)
theorem okW.tail {c:Int} {w:List Int} (h:okW (c::w)):(0≤c∧c<259)∧okW w:=⟨h c List.mem_cons_self,fun x hx=>h x (List.mem_cons_of_mem _ hx)⟩
theorem yP {d:ar} (hr:aN d=true):∀ {t i k:Nat},i<d.acc.length→k<d.acc.length→fD d t i k→∃w,okW w∧kh d i w≠kh d k w
  | 0,i,k,hi,hk,h=>⟨[],fun c hc=>by simp at hc,fun e=>(show d.acc.getD i false≠d.acc.getD k false from h) (by simpa [kh] using e)⟩
  | t+1,i,k,hi,hk,h=>by
    rcases h with h|⟨c,hc,h⟩
    · exact yP hr hi hk h
    · obtain ⟨w,hw,hn⟩:=yP hr (nC hr hi hc) (nC hr hk hc) h
      rw [pI hr hi hc,pI hr hk hc] at hn
      exact ⟨c::w,fun x hx=>by rcases List.mem_cons.1 hx with rfl|hx;exact hc;exact hw x hx,hn⟩
theorem DR {d:ar} (hr:aN d=true):∀(w:List Int) {i k:Nat},i<d.acc.length→k<d.acc.length→okW w→kh d i w≠kh d k w→As d i k
  | [],i,k,hi,hk,hw,h=>⟨0,by simpa [kh,fD] using h⟩
  | c::w,i,k,hi,hk,hw,h=>by
    obtain ⟨hc,hw⟩:=hw.tail
    have h9:kh d ((dN d i c:Nat):Int) w≠kh d ((dN d k c:Nat):Int) w:=by rw [pI hr hi hc,pI hr hk hc];exact h
    obtain ⟨t,ht⟩:=DR hr w (nC hr hi hc) (nC hr hk hc) hw h9
    exact ⟨t+1,.inr ⟨c,hc,ht⟩⟩
theorem wQ {d:ar} (hr:aN d=true) {i k:Nat} (hi:i<d.acc.length) (hk:k<d.acc.length):¬As d i k↔pQ d i d k:=by
  constructor
  · intro h w hw
    exact Classical.byContradiction fun hn=>h (DR hr w hi hk hw hn)
  · rintro h ⟨t,ht⟩
    obtain ⟨w,hw,hn⟩:=yP hr hi hk ht
    exact hn (h w hw)
structure tD (R:Nat→Nat→Prop) (f:List Int) (n:Nat):Prop where
  len:f.length=n
  val:∀i,i<n→0≤f.getD i 0∧f.getD i 0≤(i:Int)∧R (f.getD i 0).toNat i∧∀k:Nat,(k:Int)<f.getD i 0→¬R k i
theorem tD.uniq {R:Nat→Nat→Prop} {f g:List Int} {n:Nat} (h:tD R f n) (k:tD R g n):f=g:=by
  refine eM (d:=0) (by rw [h.len,k.len]) fun i hi=>?_
  rw [h.len] at hi
  have h1:=h.val i hi
  have h2:=k.val i hi
  rcases Int.lt_trichotomy (f.getD i 0) (g.getD i 0) with c|c|c
  · exact absurd h1.2.2.1 (h2.2.2.2 _ oz)
  · exact c
  · exact absurd h2.2.2.1 (h1.2.2.2 _ oz)
theorem tD.start (R:Nat→Nat→Prop):tD R [] 0:=⟨rfl,fun i h=>by omega⟩
theorem tD.snoc {R:Nat→Nat→Prop} {f:List Int} {n:Nat} {x:Int} (h:tD R f n) (h0:0≤x) (h1:x≤(n:Int)) (h2:R x.toNat n) (h3:∀k:Nat,(k:Int)<x→¬R k n):tD R (f++[x]) (n+1):=by
  refine ⟨by simp [h.len],fun i hi=>?_⟩
  by_cases e:i=n
  · subst e
    have e2:(f++[x]).getD i 0=x:=by simp [List.getD_eq_getElem?_getD,List.getElem?_append,h.len]
    rw [e2];exact ⟨h0,h1,h2,h3⟩
  · have e2:(f++[x]).getD i 0=f.getD i 0:=by
      simp only [List.getD_eq_getElem?_getD,List.getElem?_append,h.len];rw [if_pos oz]
    rw [e2];exact h.val i oz
theorem tD.ex (R:Nat→Nat→Prop) (hr:∀i,R i i):∀n,∃f,tD R f n
  | 0=>⟨[],tD.start R⟩
  | n+1=>by
    obtain ⟨f,hf⟩:=tD.ex R hr n
    obtain ⟨r,h1,h2,h3⟩:=yl (fun k=>R k n) n (hr n)
    exact ⟨f++[(r:Int)],hf.snoc oz oz (by simpa using h2) (fun k hk=>h3 k oz)⟩
structure EqR (R:Nat→Nat→Prop) (n:Nat):Prop where
  refl:∀i,i<n→R i i
  symm:∀i k,i<n→k<n→R i k→R k i
  trans:∀i j k,i<n→j<n→k<n→R i j→R j k→R i k
theorem tD.kernel {R:Nat→Nat→Prop} {f:List Int} {n:Nat} (h:tD R f n) (e:EqR R n) {i k:Nat} (hi:i<n) (hk:k<n):f.getD i 0=f.getD k 0↔R i k:=by
  have h1:=h.val i hi
  have h2:=h.val k hk
  constructor
  · intro c
    rw [←c] at h2
    exact e.trans _ _ _ hi oz hk (e.symm _ _ oz hi h1.2.2.1) h2.2.2.1
  · intro c
    rcases Int.lt_trichotomy (f.getD i 0) (f.getD k 0) with q|q|q
    · exact absurd (e.trans _ _ _ oz hi hk h1.2.2.1 c) (h2.2.2.2 _ oz)
    · exact q
    · exact absurd (e.trans _ _ _ oz hk hi h2.2.2.1 (e.symm _ _ hi hk c)) (h1.2.2.2 _ oz)
theorem tD.first {R:Nat→Nat→Prop} {f:List Int} {n:Nat} (h:tD R f n) (e:EqR R n):kE f:=fun i hi=>by
  rw [h.len] at hi
  have h1:=h.val i hi
  exact ⟨h1.1,h1.2.1,(h.kernel e oz hi).2 h1.2.2.1⟩
section
variable {α β:Type} [DecidableEq α] [DecidableEq β]
theorem E7 {l:List α} {x:α} (h:x∈l):bp (l++[x])=bp l++[((ix x (dd l):Nat):Int)]∧dd (l++[x])=dd l:=by
  have e:dd (l++[x])=dd l:=by rw [fl,if_pos ((dV l x).2 h)]
  exact ⟨by unfold bp;rw [e,List.map_append];rfl,e⟩
theorem Fs {x:α} :∀ {l:List α},x∉l→ix x (l++[x])=l.length
  | [],_=>by simp [ix]
  | y::l,h=>by
    simp only [List.mem_cons,not_or] at h
    simp only [List.cons_append,ix,if_neg h.1,Fs h.2,List.length_cons]
theorem E8 {l:List α} {x:α} (h:x∉l):bp (l++[x])=bp l++[((dd l).length:Int)]∧(dd (l++[x])).length=(dd l).length+1:=by
  have hn:x∉dd l:=fun h9=>h ((dV l x).1 h9)
  have e:dd (l++[x])=dd l++[x]:=by rw [fl,if_neg hn]
  constructor
  · unfold bp;rw [e,List.map_append]
    congr 1
    · apply List.map_congr_left
      intro y hy
      rw [pw _ ((dV l y).2 hy)]
    · simp only [List.map_cons,List.map_nil];rw [Fs hn]
  · rw [e];simp
theorem sF {l:List α} {i:Nat} {x:α} (h:l[i]?=some x):(bp l)[i]?=some ((ix x (dd l):Nat):Int):=by
  unfold bp;rw [List.getElem?_map,h];rfl
theorem yb:∀(n:Nat) (l:List α) (m:List β),l.length=n→m.length=n→(∀i k,i<n→k<n→(l[i]?=l[k]?↔m[i]?=m[k]?))→bp l=bp m∧(dd l).length=(dd m).length:=by
  intro n
  induction n with
  | zero=>
    intro l m hl hm _
    obtain rfl:=List.length_eq_zero_iff.1 hl
    obtain rfl:=List.length_eq_zero_iff.1 hm
    exact ⟨rfl,rfl⟩
  | succ n ih=>
    intro l m hl hm hk
    obtain ⟨l,x,rfl⟩:∃y x,l=y++[x]:=⟨l.dropLast,l.getLast (by intro h;rw [h] at hl;simp at hl),(List.dropLast_concat_getLast _).symm⟩
    obtain ⟨m,y,rfl⟩:∃y x,m=y++[x]:=⟨m.dropLast,m.getLast (by intro h;rw [h] at hm;simp at hm),(List.dropLast_concat_getLast _).symm⟩
    have IE:l.length=n:=by simpa using hl
    have hm':m.length=n:=by simpa using hm
    have gl:∀i,i<n→(l++[x])[i]?=l[i]?:=fun i hi=>List.getElem?_append_left oz
    have gm:∀i,i<n→(m++[y])[i]?=m[i]?:=fun i hi=>List.getElem?_append_left oz
    have el:(l++[x])[n]?=some x:=by rw [←IE];simp
    have em:(m++[y])[n]?=some y:=by rw [←hm'];simp
    obtain ⟨h1,h2⟩:=ih l m IE hm' (fun i k hi tK=>by rw [←gl i hi,←gl k tK,←gm i hi,←gm k tK];exact hk i k oz oz)
    have key:∀j,j<n→(l[j]?=some x↔m[j]?=some y):=fun j hj=>by
      have:=hk j n oz oz
      rwa [gl j hj,gm j hj,el,em] at this
    by_cases hx:x∈l
    · obtain ⟨j,hj,e⟩:=List.mem_iff_getElem.1 hx
      have e1:l[j]?=some x:=by rw [List.getElem?_eq_getElem hj,e]
      have e2:=(key j oz).1 e1
      have hy:y∈m:=List.mem_of_getElem? e2
      obtain ⟨a1,a2⟩:=E7 hx
      obtain ⟨b1,b2⟩:=E7 hy
      rw [a1,b1,a2,b2,h1]
      refine ⟨?_,h2⟩
      have c1:=sF e1
      have c2:=sF e2
      rw [h1,c2] at c1
      rw [Option.some.inj c1]
    · have hy:y∉m:=fun h=>by
        obtain ⟨j,hj,e⟩:=List.mem_iff_getElem.1 h
        exact hx (List.mem_of_getElem? ((key j oz).2 (by rw [List.getElem?_eq_getElem hj,e])))
      obtain ⟨a1,a2⟩:=E8 hx
      obtain ⟨b1,b2⟩:=E8 hy
      rw [a1,b1,a2,b2,h1,h2]
      exact ⟨rfl,rfl⟩
theorem l6 {l:List α} {i k:Nat} (hi:i<l.length) (hk:k<l.length):(bp l)[i]?=(bp l)[k]?↔l[i]?=l[k]?:=by
  rw [sF (List.getElem?_eq_getElem hi),sF (List.getElem?_eq_getElem hk),List.getElem?_eq_getElem hi,List.getElem?_eq_getElem hk]
  constructor
  · intro h
    have h1:=Option.some.inj h
    rw [Qq ((dV _ _).2 (List.getElem_mem hi)) ((dV _ _).2 (List.getElem_mem hk)) oz]
  · intro h
    rw [Option.some.inj h]
theorem Fp:∀ {l:List α} {m:List β} {x:α} {y:β},l.length=m.length→(∀i:Nat,i<l.length→(l[i]?=some x↔m[i]?=some y))→ix x l=ix y m
  | [],[],_,_,_,_=>rfl
  | a::l,b::m,x,y,hl,h=>by
    have h0:=h 0 (by simp)
    simp only [List.getElem?_cons_zero,Option.some.injEq] at h0
    simp only [ix]
    by_cases e:x=a
    · rw [if_pos e,if_pos (h0.1 e.symm).symm]
    · rw [if_neg e,if_neg (fun e2=>e (h0.2 e2.symm).symm),Fp (l:=l) (m:=m) (x:=x) (y:=y) (by simpa using hl) (fun i hi=>by simpa using h (i+1) gv)]
  | [],_::_,_,_,hl,_=>by simp at hl
  | _::_,[],_,_,hl,_=>by simp at hl
end
end Go.Sx
