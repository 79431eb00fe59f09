/- Fields of elements of rows of one's own, stored into; pointers to elements; types of elements that hold sets of bytes. Conditions: those of each theorem. -/
import Derived.Test.YtpbgmkhmdbchpaaGreatDoorWProgramFitsB1
import Derived.Lib.SlicesCompact
import Derived.Lib.IndexMore
set_option linter.unusedVariables false
set_option linter.unusedSimpArgs false
set_option linter.unusedSectionVars false
set_option maxRecDepth 20000
namespace Go.Sx
section
variable {P:Program} {Γ:Env} {w:World} {ty:TypeId} {K:Value→World→Prop} {α:Type} {T:Ty α}
theorem K8 {t e:TypeId} {x y:Operand} {v:Value} {b s off:Nat} {z:Option Value} {xs:List α} {u:Value} (j:Nat) (d x':α) (hT:T.sz=s) (cF:Nat.blt off s=true) (hs:bX P t=some (1,b,z)) (hx:ev Γ x=some (bu v (j*s+off))) (hy:ev Γ y=some u) (h1:u.oneCell'=true) (he:T.enc x'=(T.enc (xs.getD j d)).set off u)
    (ho:w.ownsRow 0 e T.sz v xs.length (T.all xs)) (hj:j<xs.length) (k:∀w',ax w [ag T v e xs] w' [ag T v e (xs.set j x')]→K undef w'):aq P Γ w (.store t x y) ty K:=by
  subst hT
  have ho':off<T.sz:=of_eq_true (Eq.trans Nat.blt_eq.symm (eq_true cF))
  have rv:=T.uP d xs j off x' u hj ho' he
  refine Dk hs hx hy h1 ho (by rw [T.cr];have:=Nat.mul_le_mul_right T.sz (Nat.succ_le_of_lt hj);rw [Nat.succ_mul] at this;omega) fun w' h=>k w' ?_
  unfold ag
  rw [List.length_set,←rv]
  exact h
theorem St {x:Operand} {v:Value} {s:Nat} {xs:List α} (j:Nat) (d:α) (hT:T.sz=s) (hx:ev Γ x=some (bu v (j*s))) (hr:bz T w v xs) (hj:j<xs.length) (k:K (bu v (j*s)) w):aq P Γ w (.nilCheck x) ty K:=by
  subst hT
  have h1:=T.oG d xs j 0 hj T.pos
  rw [Nat.add_zero,List.getElem?_eq_getElem (l:=T.enc (xs.getD j d)) (by rw [T.len];exact T.pos)] at h1
  obtain ⟨ad,he,_,c,rfl⟩:=hr.ptr h1
  exact wF (he▸hx) (he▸k)
end
theorem Ss {P:Program} {Γ:Env} {w:World} {ty:TypeId} {K:Value→World→Prop} {α:Type} {T:Ty α} {t e:TypeId} {x lo:Operand} {kd:IntKind} {a:aP} {n c sz b:Nat} {z:Option Value} {l:Int} {xs:List α} (i:Nat) (hT:T.sz=sz) (ht:P.underlying t=some (.slice e)) (hs:bX P e=some (sz,b,z)) (hx:ev Γ x=some (.slice a n c)) (hl:ev Γ lo=some (.int kd l))
    (hn:n=xs.length) (cD:l=((i:Nat):Int)) (Bd:i≤n) (Ya:n≤c) (k:∀sa sc,(∀w0,bz T w0 (.slice a n c) xs→bz T w0 (.slice sa (xs.drop i).length sc) (xs.drop i))→K (.slice sa (xs.drop i).length sc) w):aq P Γ w (.slice t x (some lo) none none) ty K:=by
  subst cD hT hn
  refine AB (i:Int) (xs.length:Int) ht hs hx (by simp [Dc,hl]) rfl (.inr ⟨kd,rfl⟩) (.inl ⟨rfl,rfl⟩) ⟨by omega,by omega,by omega⟩ ?_
  have hlen:(xs.drop i).length=xs.length-i:=by simp
  have key:∀sa,(xs.length-i=0∨sa=a.map (·.add (i*T.sz)))→∀w0,bz T w0 (.slice a xs.length c) xs→bz T w0 (.slice sa (xs.drop i).length (c-i)) (xs.drop i):=by
    rintro sa (h0|rfl) w0 hr
    · have h3:xs.drop i=[]:=List.length_eq_zero_iff.1 oz
      rw [h3];exact bz.nil _ _ _
    · have hle:=hr.le
      obtain ⟨A',Y3,ev',tC,Hu,yV⟩:=hr
      injection ev' with q1 q2 q3
      subst q1 q3
      refine ⟨_,_,rfl,T.cr _,by omega,fun j u hj=>?_⟩
      rw [DL,List.getElem?_drop] at hj
      obtain ⟨ad,rfl,hc9⟩:=yV _ u hj
      exact ⟨_,rfl,by rw [add_add];exact hc9⟩
  obtain ⟨sa,hsa,Ft⟩:∃sa,(xs.length-i=0∨sa=a.map (·.add (i*T.sz)))∧dR (.slice a xs.length c) T.sz ((i:Nat):Int).toNat ((xs.length:Nat):Int).toNat= .slice sa (xs.drop i).length (c-i):=by
    by_cases hci:c=i
    · exact ⟨a,.inl oz,by simp [dR,hci]⟩
    · exact ⟨_,.inr rfl,by simp [dR,hci]⟩
  rw [Ft]
  exact k sa (c-i) (key sa hsa)
def Xq (e:TypeId):eK NR Rn:=⟨pj,e,NR.a,NR.c,NR.xs,NR.n⟩
def eG (v:Value) (L:List Chunk):Prop:=∀g,Value.Gh v=some g→g∉dn L
theorem eG.nil (v:Value):eG v []:=fun _ _=>by simp [dn]
theorem WB {α:Type} {T:Ty α} {w:World} {v:Value} {xs:List α} (h:bz T w v xs) (bm:0<xs.length):∀g,Value.Gh v=some g→g<w.heap.size:=by
  obtain ⟨A,cap,rfl,h1,h2,h3⟩:=h
  intro g hg
  have hl:0<(T.all xs).length:=by rw [h1];exact Nat.mul_pos bm T.pos
  obtain ⟨ad,e,hc⟩:=h3 0 _ (List.getElem?_eq_getElem hl)
  cases e
  have e2:ad.block=g:=by simpa [Value.Gh] using hg
  rw [←e2]
  refine Classical.byContradiction fun h9=>?_
  have hn:w.heap[ad.block]?=none:=Array.getElem?_eq_none oz
  simp [World.cell?,Addr.add,hn] at hc
theorem eG.of {α:Type} {T:Ty α} {w w':World} {v:Value} {xs:List α} {L B:List Chunk} {G:List (List Chunk)} (hs:eG v L) (h:bz T w v xs) (bm:0<xs.length) (H:av w L w' G) (i:Nat) (hi:G[i]?=some B):eG v B:=by
  intro g hg hm
  have cF:=WB h bm g hg
  have h2:g∈dn G.flatten:=by
    obtain ⟨c,hc,MQ⟩:=gw.1 hm
    exact gw.2 ⟨c,List.mem_flatten.2 ⟨B,List.mem_of_getElem? hi,hc⟩,MQ⟩
  rcases ax.fresh H g h2 with h1|h1
  · exact hs g hg h1
  · omega
def dC:Ty Tk:=⟨8,fun t=>[.int .i64 t.kind,.int .i64 t.pos,.int .u64 ((t.set.w0.toNat:Nat):Int),.int .u64 ((t.set.w1.toNat:Nat):Int),.int .u64 ((t.set.w2.toNat:Nat):Int),.int .u64 ((t.set.w3.toNat:Nat):Int),.int .i64 t.lo,.int .i64 t.hi],fun _=>rfl,fun t u hu=>by simp at hu;rcases hu with rfl|rfl|rfl|rfl|rfl|rfl|rfl|rfl<;>rfl,by omega⟩
def aJ:Ty Nd:=⟨7,fun t=>[.int .i64 t.kind,.int .u64 ((t.set.w0.toNat:Nat):Int),.int .u64 ((t.set.w1.toNat:Nat):Int),.int .u64 ((t.set.w2.toNat:Nat):Int),.int .u64 ((t.set.w3.toNat:Nat):Int),.int .i64 t.lo,.int .i64 t.hi],fun _=>rfl,fun t u hu=>by simp at hu;rcases hu with rfl|rfl|rfl|rfl|rfl|rfl|rfl<;>rfl,by omega⟩
def br:Ty aR:=⟨7,fun t=>[.int .i64 t.kind,.int .i64 t.a,.int .i64 t.b,.int .u64 ((t.set.w0.toNat:Nat):Int),.int .u64 ((t.set.w1.toNat:Nat):Int),.int .u64 ((t.set.w2.toNat:Nat):Int),.int .u64 ((t.set.w3.toNat:Nat):Int)],fun _=>rfl,fun t u hu=>by simp at hu;rcases hu with rfl|rfl|rfl|rfl|rfl|rfl|rfl<;>rfl,by omega⟩
def fY:Ty Lv:=⟨2,fun t=>[.int .i64 t.parts,.int .i64 t.aL],fun _=>rfl,fun t u hu=>by simp at hu;rcases hu with rfl|rfl<;>rfl,by omega⟩
section
variable {P:Program} {n:Nat} {Q:Exit→Act→World→Prop} {Γ:Env} {w:World}
def tQ (P:Program) (c:Code) (Q:Exit→Act→World→Prop):Nat→Act→World→Prop
  | 0,_,_=>False
  | k+1,a,w=>c.wp P (Exit.then (tQ P c Q k) Q) a w
theorem W.roll {c:Code} (k:Nat) (h:W P n c (Exit.then (tQ P c Q k) Q) Γ w):W P n (.loop c) Q Γ w:=by
  intro a ha
  refine wp_loop_ghost (fun m a w=>tQ P c Q m a w) (k+1) (h a ha) ?_
  intro m a w hm
  cases m with
  | zero=>exact hm.elim
  | succ m=>
    refine wp_mono hm fun e a' w' hq=>?_
    cases e with
    | normal=>exact ⟨m,Nat.lt_succ_self m,hq⟩
    | exit id=>exact hq
    | goto l=>exact hq
    | ret=>exact hq
    | panic ch=>exact hq
    | outgrown=>exact hq
theorem X.roll {c:Code} {k:Nat} (ks:List Nat) {Γ':Env} (he:Sx.pick Γ ks=Γ') (h:W P n c (Exit.then (tQ P c Q k) Q) Γ' w):X n (Exit.then (tQ P c Q (k+1)) Q) .normal Γ w:=fun a ha=>h a (he▸ha.pick ks)
end
structure Tp where
  a:aP
  n:Nat
  c:Nat
  g:Nat
  o:Nat
def tp0:Tp:=⟨none,0,0,0,0⟩
def Wd:Ty Tp:=⟨2,fun t=>[.slice t.a t.n t.c,.pointer (some ⟨t.g,t.o,none⟩)],fun _=>rfl,fun t u hu=>by simp at hu;rcases hu with rfl|rfl<;>rfl,by omega⟩
def lk {α:Type} :List (Nat×α)→Nat→Option α
  | [],_=>none
  | (k,v)::r,t=>match Nat.beq k t with|true=>some v|false=>lk r t
def Rx {α:Type} :List (Nat×Nat×α)→Nat→Nat→Option α
  | [],_,_=>none
  | (k,j,v)::r,t,i=>match Nat.beq k t with
    | true=>(match Nat.beq j i with|true=>some v|false=>Rx r t i)
    | false=>Rx r t i
class Tb (P:Program) where
  u:List (Nat×TypeDesc)
  hu:u.map (fun x=>P.underlying x.1)=u.map fun x=>some x.2
  s:List (Nat×Nat×Nat×Value)
  hs:s.map (fun x=>bX P x.1)=s.map fun x=>some (x.2.1,x.2.2.1,some x.2.2.2)
  f:List (Nat×Nat×Nat×Nat×Bool)
  hf:f.map (fun x=>lX P x.1 x.2.1)=f.map fun x=>some x.2.2
  c:List Nat
  hc:∀f,c.contains f=true→fQ P f
  mx:P.follows .mixedOrders=true
theorem QD {P:Program} {c:List Nat} (h:(c.all fun f=>match P.funcs[f]? with|some fn=> !(fn.name== "runtime.NumGoroutine")&& !fn.body.isNone|none=>false)=true) (f:Nat) (hf:c.contains f=true):fQ P f:=by
  have:=List.all_eq_true.1 h f (by simpa using hf)
  split at this
  · rename_i fn e
    simp only [Bool.and_eq_true,Bool.not_eq_true'] at this
    exact qy e this.1 this.2
  · cases this
theorem Fe {α β:Type} {F:Nat→Option β} {G:α→Option β} :∀ {l:List (Nat×α)},(l.map fun x=>F x.1)=(l.map fun x=>G x.2)→∀ {t:Nat} {v:α},lk l t=some v→F t=G v
  | [],_,_,_,h=>by cases h
  | (k,u)::r,h,t,v,e=>by
    simp only [List.map_cons,List.cons.injEq] at h
    unfold lk at e
    cases hb:Nat.beq k t with
    | true=>rw [hb] at e;cases e;rw [←Nat.eq_of_beq_eq_true hb];exact h.1
    | false=>rw [hb] at e;exact Fe h.2 e
theorem Ad {α β:Type} {F:Nat→Nat→Option β} {G:α→Option β} :∀ {l:List (Nat×Nat×α)},(l.map fun x=>F x.1 x.2.1)=(l.map fun x=>G x.2.2)→∀ {t i:Nat} {v:α},Rx l t i=some v→F t i=G v
  | [],_,_,_,_,h=>by cases h
  | (k,j,u)::r,h,t,i,v,e=>by
    simp only [List.map_cons,List.cons.injEq] at h
    unfold Rx at e
    cases hb:Nat.beq k t with
    | true=>
      rw [hb] at e
      cases hc:Nat.beq j i with
      | true=>rw [hc] at e;cases e;rw [←Nat.eq_of_beq_eq_true hb,←Nat.eq_of_beq_eq_true hc];exact h.1
      | false=>rw [hc] at e;exact Ad h.2 e
    | false=>rw [hb] at e;exact Ad h.2 e
section
variable {P:Program} [T:Tb P]
theorem Tb.U {t:TypeId} {d:TypeDesc} (h:lk T.u t=some d):P.underlying t=some d:=Fe (F:=P.underlying) (G:=some) T.hu h
theorem Tb.S {t:TypeId} {s b:Nat} {z:Value} (h:lk T.s t=some (s,b,z)):bX P t=some (s,b,some z):=Fe (F:=bX P) (G:=fun x:Nat×Nat×Value=>some (x.1,x.2.1,some x.2.2)) T.hs h
theorem Tb.C {f:FuncId} (h:T.c.contains f=true):fQ P f:=T.hc f h
theorem Tb.F {t:TypeId} {f:Nat} {x:Nat×Nat×Bool} (h:Rx T.f t f=some x):lX P t f=some x:=Ad (F:=lX P) (G:=some) T.hf h
end
inductive Fr where
  | nx (c:Code)
  | bl (id:Nat)
  | iv (K:Act→World→Prop)
def QF (P:Program) (Q:Exit→Act→World→Prop):List Fr→Exit→Act→World→Prop
  | []=>Q
  | .nx c::fs=>Exit.then (c.wp P (QF P Q fs)) (QF P Q fs)
  | .bl id::fs=>Exit.inBlock id (QF P Q fs)
  | .iv K::fs=>Exit.then K (QF P Q fs)
inductive Gl where
  | code (c:Code) (fs:List Fr) (Γ:Env)
  | ops (all:Array Oper) (rest:List Oper) (fs:List Fr) (Γ:Env)
  | draw (all:Array Oper) (T:List Nat) (Pn:List pf) (fs:List Fr) (Γ:Env)
  | norm (fs:List Fr) (Γ:Env)
  | ret (Γ:Env)
  | bad
def Jd (id:Nat):List Fr→Option (List Fr)
  | []=>none
  | .bl i::fs=>(match Nat.beq i id with|true=>some fs|false=>Jd id fs)
  | .nx _::fs=>Jd id fs
  | .iv _::fs=>Jd id fs
def Ja (n:Nat) (d:Option Nat) (v:Value) (Γ:Env):Option Env:=
  match d with
  | some d=>(match Nat.blt d n with|true=>some ((d,v)::Γ)|false=>none)
  | none=>some Γ
def KH (all:Array Oper) (Γ:Env):Option (Nat×Bool)→Option Bool
  | none=>some true
  | some (j,want)=>match (all[j]?).bind (·.dst) with
    | some t=>(match look Γ t with
      | some (.bool b)=>(match b,want with|true,true=>some true|false,false=>some true|true,false=>some false|false,true=>some false)
      | some (.tuple vs)=>(match vs.toList with|[]=>some false|_=>none)
      | _=>none)
    | none=>none
def W2 (P:Program) [T:Tb P] (Γ:Env):Op→Option Value
  | .move x=>ev Γ x
  | .assign x=>ev Γ x
  | .extract x i=>(match ev Γ x with|some (.tuple vs)=>vs.toList[i]?|_=>none)
  | .pick c x y=>(match ev Γ c with|some (.bool b)=>(match b with|true=>ev Γ x|false=>ev Γ y)|_=>none)
  | .binOp op _ x y _=>(match ev Γ x,ev Γ y with
    | some (.int k a),some (.int k' b)=>(match decide (k=k') with|true=>(HX op a b).map .bool|false=>none)
    | some (.string a),some (.string b)=>(match op with| .eql=>some (.bool (decide (a=b)))| .neq=>some (.bool (decide (a≠b)))|_=>none)
    | _,_=>none)
  | .unOp .not _ x=>(match ev Γ x with|some (.bool b)=>some (.bool (!b))|_=>none)
  | .call ⟨.builtin .len,⟨[x]⟩,⟨[t]⟩⟩=>(match ev Γ x,lk T.u t with
    | some (.slice _ n _),some (.slice _)=>some (.int .i64 ((n:Nat):Int))
    | some (.string s),some .string=>some (.int .i64 ((s.size:Nat):Int))
    | _,_=>none)
  | .fieldAddr t x f=>(match ev Γ x,Rx T.f t f with
    | some (.pointer (some ⟨g,o,none⟩)),some (off,s,_)=>(match Nat.beq s 0 with|false=>some (.pointer (some ⟨g,o+off,none⟩))|true=>none)
    | _,_=>none)
  | .field t x f=>(match ev Γ x,Rx T.f t f with
    | some (.agg cs),some (off,s,a)=>(match a with|true=>some (.agg ((cs.toList.drop off).take s).toArray)|false=>cs.toList[off]?)
    | _,_=>none)
  | .nilCheck x=>(match ev Γ x with
    | some (.pointer (some a))=>some (.pointer (some a))
    | some (.func (.func f) a b)=>some (.func (.func f) a b)
    | _=>none)
  | _=>none
theorem Cb {P:Program} [T:Tb P] {w:World} {Γ:Env} {op:Op} {v:Value} {ty:TypeId} {K:Value→World→Prop} (h:W2 P Γ op=some v) (k:K v w):aq P Γ w op ty K:=by
  unfold W2 at h
  split at h
  · exact Ur h k
  · exact NF h k
  · split at h
    · rename_i hx;exact J6 hx (by simpa using h) k
    · cases h
  · split at h
    · rename_i b hc;exact Uo hc (by cases b<;>exact h) k
    · cases h
  · split at h
    · rename_i hx hy
      split at h
      · rename_i hk
        have hk:=of_decide_eq_true hk;subst hk
        cases hc:HX _ _ _ with
        | none=>rw [hc] at h;cases h
        | some r=>rw [hc] at h;cases h;exact ND r hx hy hc k
      · cases h
    · rename_i hx hy
      split at h
      · cases h;exact Qo hx hy k
      · cases h;exact Qn hx hy k
      · cases h
    · cases h
  · split at h
    · rename_i hx;cases h;exact Uq hx k
    · cases h
  · split at h
    · rename_i hx ht;cases h;exact Us (Tb.U ht) hx k
    · rename_i hx ht;cases h;exact Nv (Tb.U ht) hx k
    · cases h
  · split at h
    · rename_i hx hf
      split at h
      · rename_i hs;cases h;exact AF (Tb.F hf) hs hx k
      · cases h
    · cases h
  · split at h
    · rename_i hx hf
      split at h
      · cases h;exact NB (Tb.F hf) hx (by apply Array.toList_inj.1;simp [List.drop_take]) k
      · exact Qq (Tb.F hf) hx (by simpa using h) k
    · cases h
  · split at h
    · rename_i hx;cases h;exact wF hx k
    · rename_i hx;cases h;exact Dm hx k
    · cases h
  · cases h
def xM (P:Program) [Tb P] (n:Nat) (all:Array Oper) (T:List Nat) (Γ:Env):List Nat→Option (Nat×Value×Nat)
  | []=>none
  | k::r=>match T.contains k with
    | true=>xM P n all T Γ r
    | false=>(match (cL all k).all T.contains with
      | false=>xM P n all T Γ r
      | true=>(match all[k]? with
        | some o=>(match o.dst with
          | some d=>(match Nat.blt d n with
            | true=>(match kQ all Γ o with
              | some true=>(match W2 P Γ o.op with|some v=>some (k,v,d)|none=>xM P n all T Γ r)
              | some false=>some (k,undef,d)
              | none=>xM P n all T Γ r)
            | false=>xM P n all T Γ r)
          | none=>xM P n all T Γ r)
        | none=>xM P n all T Γ r))
def bT (P:Program) [Tb P] (n:Nat):Nat→Gl→Gl
  | 0,g=>g
  | k+1,.code c fs Γ=>(match c with
    | .seq x y=>bT P n k (.code x (.nx y::fs) Γ)
    | .skip=>bT P n k (.norm fs Γ)
    | .block id c=>bT P n k (.code c (.bl id::fs) Γ)
    | .exit id=>(match Jd id fs with|some Qi=>bT P n k (.norm Qi Γ)|none=> .bad)
    | .ret=>bT P n k (.ret Γ)
    | .region _ ops draw=>(match draw with|false=>bT P n k (.ops ops ops.toList fs Γ)|true=> .bad)
    | .cond c x y=>(match ev Γ c with|some (.bool b)=>(match b with|true=>bT P n k (.code x fs Γ)|false=>bT P n k (.code y fs Γ))|_=> .bad)
    | _=> .bad)
  | k+1,.ops all rest fs Γ=>(match rest with
    | []=>bT P n k (.norm fs Γ)
    | o::r=>(match KH all Γ o.guard with
      | some true=>(match W2 P Γ o.op with|some v=>(match Ja n o.dst v Γ with|some Γ'=>bT P n k (.ops all r fs Γ')|none=> .bad)|none=> .bad)
      | some false=>(match Ja n o.dst undef Γ with|some Γ'=>bT P n k (.ops all r fs Γ')|none=> .bad)
      | none=> .bad))
  | k+1,.draw all T Pn fs Γ=>(match (List.range all.size).all T.contains with
    | true=>bT P n k (.norm fs Γ)
    | false=>(match xM P n all T Γ (List.range all.size) with
      | some (j,v,d)=>bT P n k (.draw all (j::T) (⟨j,v,fun _=>True⟩::Pn) fs ((d,v)::Γ))
      | none=> .bad))
  | k+1,.norm fs Γ=>(match fs with
    | .nx c::fs=>bT P n k (.code c fs Γ)
    | .bl _::fs=>bT P n k (.norm fs Γ)
    | _=> .bad)
  | _+1,_=> .bad
section
variable {P:Program} {n:Nat} {Q:Exit→Act→World→Prop} {w:World}
def Gl.is (P:Program) (n:Nat) (Q:Exit→Act→World→Prop) (w:World):Gl→Prop
  | .code c fs Γ=>W P n c (QF P Q fs) Γ w
  | .ops all rest fs Γ=>WL P n all (QF P Q fs) rest Γ w
  | .draw all T Pn fs Γ=>eT all=true→WD P n all (QF P Q fs) T Pn Γ w
  | .norm fs Γ=>X n (QF P Q fs) .normal Γ w
  | .ret Γ=>X n Q .ret Γ w
  | .bad=>False
theorem A3:∀(fs:List Fr) (a:Act) (w:World),QF P Q fs .ret a w=Q .ret a w
  | [],_,_=>rfl
  | .nx _::fs,a,w=>A3 fs a w
  | .bl _::fs,a,w=>A3 fs a w
  | .iv _::fs,a,w=>A3 fs a w
theorem mB {id:Nat} :∀(fs:List Fr) {Qi:List Fr},Jd id fs=some Qi→∀a w,QF P Q Qi .normal a w→QF P Q fs (.exit id) a w
  | [],Qi,h,a,w,hq=>by cases h
  | .bl i::fs,Qi,h,a,w,hq=>by
    unfold Jd at h
    cases hb:Nat.beq i id with
    | true=>
      rw [hb] at h;cases h
      have e:=Nat.eq_of_beq_eq_true hb
      subst e
      simpa [QF,Exit.inBlock] using hq
    | false=>
      rw [hb] at h
      have ne:id≠i:=fun e=>by subst e;simp at hb
      show Exit.inBlock i (QF P Q fs) (.exit id) a w
      simpa [Exit.inBlock,ne] using mB fs h a w hq
  | .nx c::fs,Qi,h,a,w,hq=>mB fs h a w hq
  | .iv K::fs,Qi,h,a,w,hq=>mB fs h a w hq
theorem MX {all:Array Oper} {Γ:Env} {g:Option (Nat×Bool)} (h:KH all Γ g=some true):g=none∨∃j want t,g=some (j,want)∧(all[j]?).bind (·.dst)=some t∧look Γ t=some (.bool want):=by
  unfold KH at h
  split at h
  · exact .inl rfl
  · rename_i j want
    split at h
    · rename_i t ht
      split at h
      · rename_i b hb
        refine .inr ⟨j,want,t,rfl,ht,?_⟩
        split at h<;>first|exact hb|cases h
      · split at h<;>cases h
      · cases h
    · cases h
theorem JV {all:Array Oper} {Γ:Env} {g:Option (Nat×Bool)} (h:KH all Γ g=some false):∃j want t,g=some (j,want)∧(all[j]?).bind (·.dst)=some t∧(look Γ t=some (.bool (!want))∨look Γ t=some undef):=by
  unfold KH at h
  split at h
  · cases h
  · rename_i j want
    split at h
    · rename_i t ht
      refine ⟨j,want,t,rfl,ht,?_⟩
      split at h
      · rename_i b hb
        split at h<;>first|exact .inl hb|cases h
      · rename_i vs hb
        split at h
        · rename_i hv
          right;rw [hb];congr 1;unfold undef;congr 1
          exact Array.toList_inj.1 hv
        · cases h
      · cases h
    · cases h
theorem oV {m:Nat} {d:Nat} {v:Value} {Γ Γ':Env} (h:Ja m (some d) v Γ=some Γ'):Nat.blt d m=true∧Γ'=(d,v)::Γ:=by
  unfold Ja at h
  simp only at h
  cases hb:Nat.blt d m with
  | true=>rw [hb] at h;cases h;exact ⟨rfl,rfl⟩
  | false=>rw [hb] at h;cases h
theorem WL.gd {all:Array Oper} {o:Oper} {r:List Oper} {R:Exit→Act→World→Prop} {Γ:Env} (hg:KH all Γ o.guard=some true) (hd:(match o.dst with|some d=>Nat.blt d n|none=>true)=true) (h:aq P Γ w o.op o.type fun v w'=>WL P n all R r (B3 Γ o.dst v) w'):WL P n all R (o::r) Γ w:=by
  obtain ⟨dst,op,ty,pos,after,guard⟩:=o
  simp only at hg hd h
  rcases MX hg with rfl|⟨j,want,t,rfl,hj,hv⟩
  · cases dst with
    | some d=>exact WL.op hd h
    | none=>exact WL.op0 h
  · cases dst with
    | some d=>exact WL.opG hj hv hd h
    | none=>exact WL.abz hj hv h
theorem Ji [Tb P] {all:Array Oper} {o:Oper} {r:List Oper} {R:Exit→Act→World→Prop} {Γ Γ':Env} {v:Value} (hg:KH all Γ o.guard=some true) (ho:W2 P Γ o.op=some v) (hp:Ja n o.dst v Γ=some Γ') (k:WL P n all R r Γ' w):WL P n all R (o::r) Γ w:=by
  refine WL.gd hg ?_ (Cb ho ?_)
  · cases hd:o.dst with
    | some d=>rw [hd] at hp;exact (oV hp).1
    | none=>rfl
  · cases hd:o.dst with
    | some d=>rw [hd] at hp;rw [(oV hp).2] at k;exact k
    | none=>rw [hd] at hp;cases hp;exact k
theorem Jh {all:Array Oper} {o:Oper} {r:List Oper} {R:Exit→Act→World→Prop} {Γ Γ':Env} (hg:KH all Γ o.guard=some false) (hp:Ja n o.dst undef Γ=some Γ') (k:WL P n all R r Γ' w):WL P n all R (o::r) Γ w:=by
  obtain ⟨dst,op,ty,pos,after,guard⟩:=o
  simp only at hg hp
  obtain ⟨j,want,t,rfl,hj,hv|hv⟩:=JV hg
  · cases dst with
    | some d=>obtain ⟨hd,rfl⟩:=oV hp;exact WL.opN hj hv (by cases want<;>rfl) hd k
    | none=>cases hp;exact WL.aby hj hv (by cases want<;>rfl) k
  · cases dst with
    | some d=>obtain ⟨hd,rfl⟩:=oV hp;exact WL.opU hj hv hd k
    | none=>cases hp;exact WL.abx hj hv k
theorem fP [Tb P] {all:Array Oper} {R:Exit→Act→World→Prop} {T:List Nat} {Pn:List pf} {Γ:Env} {j d:Nat} {v:Value} (bB:eT all=true):∀(l:List Nat),xM P n all T Γ l=some (j,v,d)→WD P n all R (j::T) (⟨j,v,fun _=>True⟩::Pn) ((d,v)::Γ) w→WD P n all R T Pn Γ w
  | [],h,_=>by cases h
  | k::r,h,k2=>by
    unfold xM at h
    split at h
    · exact fP bB r h k2
    · rename_i hT
      split at h
      · exact fP bB r h k2
      · rename_i hp
        split at h
        · rename_i o ho
          split at h
          · rename_i d' hd
            split at h
            · rename_i Au
              split at h
              · rename_i hw
                split at h
                · rename_i v' hv
                  cases h
                  exact WD.take bB _ _ _ ho hd Au hT hp trivial (.inl ⟨hw,fun w' _=>Cb hv ⟨rfl,rfl⟩⟩) k2
                · exact fP bB r h k2
              · rename_i hw
                cases h
                exact WD.take bB _ undef _ ho hd Au hT hp trivial (.inr ⟨hw,rfl⟩) k2
              · exact fP bB r h k2
            · exact fP bB r h k2
          · exact fP bB r h k2
        · exact fP bB r h k2
theorem ar [Tb P]:∀(k:Nat) (g:Gl),Gl.is P n Q w (bT P n k g)→Gl.is P n Q w g
  | 0,g,h=>h
  | k+1,.code c fs Γ,h=>by
    unfold bT at h
    cases c with
    | seq x y=>exact W.seq (ar k _ h)
    | skip=>exact W.skip (ar k _ h)
    | block id c=>exact W.block (ar k _ h)
    | exit id=>
      simp only at h
      split at h
      · rename_i Qi hp
        have:=ar k _ h
        exact W.exit (fun a ha=>mB _ hp a w (this a ha))
      · exact h.elim
    | ret=>
      have h2:X n Q .ret Γ w:=ar k _ h
      exact W.ret (fun a ha=>by rw [A3];exact h2 a ha)
    | region id ops draw=>
      cases draw with
      | false=>
        have h2:WL P n ops (QF P Q fs) ops.toList Γ w:=ar k _ h
        obtain ⟨l⟩:=ops
        exact W.region h2
      | true=>exact h.elim
    | cond c x y=>
      simp only at h
      split at h
      · rename_i b hb
        cases b with
        | true=>exact W.ift hb (ar k _ h)
        | false=>exact W.iff hb (ar k _ h)
      · exact h.elim
    | _=>exact h.elim
  | k+1,.ops all rest fs Γ,h=>by
    unfold bT at h
    cases rest with
    | nil=>exact WL.done (ar k _ h)
    | cons o r=>
      simp only at h
      split at h
      · rename_i hg
        split at h
        · rename_i v ho
          split at h
          · rename_i Γ' hp;exact Ji hg ho hp (ar k _ h)
          · exact h.elim
        · exact h.elim
      · rename_i hg
        split at h
        · rename_i Γ' hp;exact Jh hg hp (ar k _ h)
        · exact h.elim
      · exact h.elim
  | k+1,.draw all T Pn fs Γ,h=>by
    unfold bT at h
    intro bB
    split at h
    · rename_i jv;exact WD.done bB jv (ar k _ h)
    · split at h
      · rename_i j v d hf;exact fP bB _ hf (ar k _ h bB)
      · exact h.elim
  | k+1,.norm fs Γ,h=>by
    unfold bT at h
    cases fs with
    | nil=>exact h.elim
    | cons f fs=>
      cases f with
      | nx c=>exact X.yg (ar k _ h)
      | bl id=>exact X.AZ (ar k _ h)
      | iv K=>exact h.elim
  | k+1,.ret Γ,h=>by unfold bT at h;exact h.elim
  | k+1,.bad,h=>by unfold bT at h;exact h.elim
end
section
variable {α:Type}
inductive On:Nat→α→α→List α→List α→Prop
  | z {A B:α} {G:List α} :On 0 A B (A::G) (B::G)
  | s {i:Nat} {A B C:α} {G G':List α} :On i A B G G'→On (i+1) A B (C::G) (C::G')
theorem On.get {i:Nat} {A B:α} {G G':List α} (h:On i A B G G'):G[i]?=some A:=by
  induction h with
  | z=>rfl
  | s _ ih=>simpa using ih
theorem On.set {i:Nat} {A B:α} {G G':List α} (h:On i A B G G'):G.set i B=G':=by
  induction h with
  | z=>rfl
  | s _ ih=>simpa using ih
inductive Ap:List α→List α→List α→Prop
  | z {M:List α} :Ap [] M M
  | s {C:α} {G M G':List α} :Ap G M G'→Ap (C::G) M (C::G')
theorem Ap.eq {G M G':List α} (h:Ap G M G'):G++M=G':=by
  induction h with
  | z=>rfl
  | s _ ih=>simp [ih]
inductive A9:List (List α)→List α→List (List α)→Prop
  | z:A9 [] [] []
  | t {C:α} {M:List α} {G':List (List α)} :A9 [] M G'→A9 [] (C::M) ([C]::G')
  | s {C:List α} {G:List (List α)} {M:List α} {G':List (List α)} :A9 G M G'→A9 (C::G) M (C::G')
theorem A9.eq {G:List (List α)} {M:List α} {G':List (List α)} (h:A9 G M G'):G'.flatten=G.flatten++M:=by
  induction h with
  | z=>rfl
  | t _ ih=>simpa using ih
  | s _ ih=>simp [ih]
inductive Dr:Nat→List α→List α→Prop
  | z {G:List α} :Dr 0 G G
  | s {i:Nat} {A:α} {G R:List α} :Dr i G R→Dr (i+1) (A::G) R
theorem Dr.eq {i:Nat} {G R:List α} (h:Dr i G R):G.drop i=R:=by
  induction h with
  | z=>rfl
  | s _ ih=>simpa using ih
inductive Sa (F:List α):List Nat→List (List α)→Prop
  | z:Sa F [] []
  | s {i:Nat} {l:List Nat} {c:α} {G:List (List α)} :F[i]?=some c→Sa F l G→Sa F (i::l) ([c]::G)
theorem Sa.eq {F:List α} {l:List Nat} {G:List (List α)} (h:Sa F l G):l.map (fun i=>F[i]?)=G.flatten.map some:=by
  induction h with
  | z=>rfl
  | s e _ ih=>simp [e,ih]
end
inductive Cp {α:Type} :List α→List α→Prop
  | z:Cp [] []
  | s {C:α} {G G':List α} :Cp G G'→Cp (C::G) (C::G')
theorem Cp.eq {α:Type} {G G':List α} (h:Cp G G'):G=G':=by
  induction h with
  | z=>rfl
  | s _ ih=>rw [ih]
inductive Pk (Γ:Env):List Nat→Env→Prop
  | z:Pk Γ [] []
  | s {t:Nat} {v:Value} {ks:List Nat} {Γ':Env} :look Γ t=some v→Pk Γ ks Γ'→Pk Γ (t::ks) ((t,v)::Γ')
theorem Pk.eq {Γ:Env} {ks:List Nat} {Γ':Env} (h:Pk Γ ks Γ'):Sx.pick Γ ks=Γ':=by
  induction h with
  | z=>rfl
  | s e _ ih=>simp only [Sx.pick,e,ih]
inductive Sb (Γ:Env):Env→Prop
  | z:Sb Γ []
  | s {t:Nat} {v:Value} {Γ':Env} :look Γ t=some v→Sb Γ Γ'→Sb Γ ((t,v)::Γ')
theorem Sb.look {Γ Γ':Env} (h:Sb Γ Γ'):∀t v,Sx.look Γ' t=some v→Sx.look Γ t=some v:=by
  induction h with
  | z=>intro t v h;simp [Sx.look] at h
  | @s k u Γ' e _ ih=>
    intro t v h
    by_cases hk:k=t
    · subst hk;rw [du] at h;rw [e];exact h
    · rw [c0 u _ hk] at h;exact ih t v h
inductive Zp:Nat→List Value→Env→Prop
  | z {k:Nat} :Zp k [] []
  | s {k:Nat} {v:Value} {l:List Value} {Γ:Env} :Zp (k+1) l Γ→Zp k (v::l) ((k,v)::Γ)
theorem Zp.eq {k:Nat} {l:List Value} {Γ:Env} (h:Zp k l Γ):nM k l=Γ:=by
  induction h with
  | z=>rfl
  | s _ ih=>simp only [nM,ih]
section
variable {w w1 w2 w':World} {L A B M:List Chunk} {G G':List (List Chunk)}
theorem av.un (h:av w L w1 G) (i:Nat) (k:ax w1 A w2 B) (o:On i A B G G':=by repeat' first|exact On.z|apply On.s):av w L w2 G':=o.set▸h.on i o.get k
theorem av.nw (h:av w L w1 G) (k:ax w1 [] w2 B) (o:Ap G [B] G':=by repeat' first|exact Ap.z|apply Ap.s):av w L w2 G':=o.eq▸h.iZ k
theorem av.ns (h:av w L w1 G) (k:ax w1 [] w2 B) (o:A9 G B G':=by repeat' first|exact A9.z|apply A9.s|apply A9.t):av w L w2 G':=(h.iZ k).re (by rw [o.eq];simp)
theorem av.nr {α:Type} (h:av w L w1 G) (T:Ty α) (e:TypeId) (o:Ap G [[ag T (.slice none ([]:List α).length 0) e []]] G':=by repeat' first|exact Ap.z|apply Ap.s):av w L w1 G':=o.eq▸h.iZ (ax.zW w1 T e)
theorem av.ps (h:av w L w1 G) (l:List Nat) (o:Sa G.flatten l G':=by repeat' first|exact Sa.z|apply Sa.s|rfl) (hn:decide l.Nodup=true:=by rfl):av w L w1 G':=h.pm l o.eq hn
theorem av.no (h:av w L w1 G) (o:Cp G G':=by repeat' first|exact Cp.z|apply Cp.s):av w L w1 G':=o.eq▸h
theorem av.sn (h:av w L w1 G) (o:A9 [] G.flatten G':=by repeat' first|exact A9.z|apply A9.s|apply A9.t):av w L w1 G':=h.re (by rw [o.eq];rfl)
theorem av.rt {α:Type} {T:Ty α} {v:Value} {e:TypeId} {xs:List α} (h:av w L w' G) (i:Nat) (hi:G[i]?=some [ag T v e xs]:=by rfl):bz T w' v xs:=h.GU i hi
theorem av.b {g:Nat} {cs:Array Value} {e:TypeId} (h:av w L w' G) (i:Nat) (hi:G[i]?=some [Sx.aQ g cs e]:=by rfl):w'.heap[g]?=some (.cells cs e (0,0)):=h.aQ i hi
theorem av.ow {α:Type} {T:Ty α} {v:Value} {e:TypeId} {xs:List α} (h:av w L w' G) (i:Nat) (hi:G[i]?=some [ag T v e xs]:=by rfl):w'.ownsRow 0 e T.sz v xs.length (T.all xs):=h.LP i hi
theorem av.dr (h:av w L w' G) (i:Nat) (hi:G[i]?=some A:=by rfl):Hp w' A:=h.bU i hi
theorem av.kM (h:av w L w' G) (i:Nat) (hi:G[i]?=some A:=by rfl):ax w L w' A:=h.one i hi
theorem av.se (h:av w L w' G) (l:List Nat) (hl:l.map (fun i=>G.flatten[i]?)=M.map some:=by rfl) (hn:decide l.Nodup=true:=by rfl):ax w L w' M:=ax.iW h hl hn
theorem LC {α:Type} {T:Ty α} {v:Value} {e:TypeId} {xs:List α} (h:Hp w L) (i:Nat) (hi:L[i]?=some (ag T v e xs):=by rfl):bz T w v xs:=cC h (List.mem_of_getElem? hi)
end
theorem X.Wy {P:Program} {n:Nat} {Γ:Env} {w:World} {fn:Func} {R:Value→World→Prop} {r1 r2 r3:ResultVar} (hr:fn.results= #[r1,r2,r3]) {v1 v2 v3:Value} (h1:pI P Γ w r1 v1) (h2:pI P Γ w r2 v2) (h3:pI P Γ w r3 v3) (h:R (.tuple #[v1,v2,v3]) w):X n (bodyPost P fn (aX R)) .ret Γ w:=
  fun a ha=>bodyPost_ret (v:= .tuple #[v1,v2,v3]) (by
    have e1:=h1 a.tmps ha.slot
    have e2:=h2 a.tmps ha.slot
    have e3:=h3 a.tmps ha.slot
    simp [qb,hr,e1,e2,e3]) ha.defers ⟨_,rfl,h⟩
theorem X.abe {P:Program} {fn:Func} {n:Nat} {Γ:Env} {w:World} {R:Value→World→Prop} {t u s r:Nat} (hr:fn.results= #[.tmp t,.tmp u,.tmp s,.tmp r]) {v1 v2 v3 v4:Value} (h1:look Γ t=some v1) (h2:look Γ u=some v2) (h3:look Γ s=some v3) (h4:look Γ r=some v4) (h:R (.tuple #[v1,v2,v3,v4]) w):X n (bodyPost P fn (aX R)) .ret Γ w:=
  fun a ha=>bodyPost_ret (v:= .tuple #[v1,v2,v3,v4]) (by simp only [results,hr];have e1:=ha.slot t v1 h1;have e2:=ha.slot u v2 h2;have e3:=ha.slot s v3 h3;have e4:=ha.slot r v4 h4;simp only [Array.getD_eq_getD_getElem?] at e1 e2 e3 e4;simp [e1,e2,e3,e4]) ha.defers ⟨_,rfl,h⟩
section
variable {P:Program} [Tb P] {n:Nat} {Q:Exit→Act→World→Prop} {w:World} {g:Gl} {al:Array Oper} {r:List Oper} {fs:List Fr} {Γ Γ':Env} {d:Nat} {o:Op} {ty:TypeId} {T:List Nat} {Pn:List pf}
def At (P:Program) [Tb P] (n k:Nat) (g:Gl) (d:Nat) (o:Op) (ty:TypeId) (al:Array Oper) (r:List Oper) (fs:List Fr) (Γ:Env):Prop:=
  ∃pos after gd,bT P n k g= .ops al ({ dst:=some d,op:=o,type:=ty,pos,after,guard:=gd } ::r) fs Γ∧KH al Γ gd=some true∧Nat.blt d n=true
def At0 (P:Program) [Tb P] (n k:Nat) (g:Gl) (o:Op) (ty:TypeId) (al:Array Oper) (r:List Oper) (fs:List Fr) (Γ:Env):Prop:=
  ∃pos after gd,bT P n k g= .ops al ({ dst:=none,op:=o,type:=ty,pos,after,guard:=gd } ::r) fs Γ∧KH al Γ gd=some true
theorem ab (k:Nat) (a:At P n k g d o ty al r fs Γ:=by exact ⟨_,_,_,rfl,rfl,rfl⟩) (h:aq P Γ w o ty fun v w'=>Gl.is P n Q w' (.ops al r fs ((d,v)::Γ))):Gl.is P n Q w g:=by
  obtain ⟨_,_,_,e,hg,hd⟩:=a
  exact ar k g (e▸WL.gd (n:=n) (r:=r) (R:=QF P Q fs) hg hd h)
theorem aY (k:Nat) (a:At0 P n k g o ty al r fs Γ:=by exact ⟨_,_,_,rfl,rfl⟩) (h:aq P Γ w o ty fun _ w'=>Gl.is P n Q w' (.ops al r fs Γ)):Gl.is P n Q w g:=by
  obtain ⟨_,_,_,e,hg⟩:=a
  exact ar k g (e▸WL.gd (n:=n) (r:=r) (R:=QF P Q fs) hg rfl h)
theorem aN {pos:String} {after:Array Edge} {gd:Option (Nat×Bool)} (k:Nat) (e:bT P n k g= .ops al ({ dst:=some d,op:=o,type:=ty,pos,after,guard:=gd } ::r) fs Γ) (h:aq P Γ w o ty fun v w'=>Gl.is P n Q w' (.ops al r fs ((d,v)::Γ))) (hg:KH al Γ gd=some true:=by rfl) (hd:Nat.blt d n=true:=by rfl):Gl.is P n Q w g:=ab k ⟨pos,after,gd,e,hg,hd⟩ h
theorem zO {pos:String} {after:Array Edge} {gd:Option (Nat×Bool)} (k:Nat) (e:bT P n k g= .ops al ({ dst:=none,op:=o,type:=ty,pos,after,guard:=gd } ::r) fs Γ) (h:aq P Γ w o ty fun _ w'=>Gl.is P n Q w' (.ops al r fs Γ)) (hg:KH al Γ gd=some true:=by rfl):Gl.is P n Q w g:=aY k ⟨pos,after,gd,e,hg⟩ h
theorem aC {c:Operand} {x y:Code} {p:Prop} {i:Decidable p} (k:Nat) (h1:p→Gl.is P n Q w (.code x fs Γ)) (h2:¬p→Gl.is P n Q w (.code y fs Γ)) (e:bT P n k g= .code (.cond c x y) fs Γ:=by rfl) (hc:ev Γ c=some (.bool (decide p)):=by rfl):Gl.is P n Q w g:=
  ar k g (e▸W.ite hc h1 h2)
theorem dv {c:Operand} {x y:Code} {b:Bool} (k:Nat) (h1:b=true→Gl.is P n Q w (.code x fs Γ)) (h2:¬b=true→Gl.is P n Q w (.code y fs Γ)) (e:bT P n k g= .code (.cond c x y) fs Γ:=by rfl) (hc:ev Γ c=some (.bool b):=by rfl):Gl.is P n Q w g:=
  ar k g (e▸W.ab5 hc h1 h2)
theorem b9 {p:Prop} {i:Decidable p} (k t:Nat) (h1:p→Gl.is P n Q w (.ops al r fs ((t,.bool true)::Γ))) (h2:¬p→Gl.is P n Q w (.ops al r fs ((t,.bool false)::Γ))) (e:bT P n k g= .ops al r fs Γ:=by rfl) (hc:look Γ t=some (.bool (decide p)):=by rfl):Gl.is P n Q w g:=
  ar k g (e▸WL.part t hc h1 h2)
theorem iX {b:Bool} (k t:Nat) (h1:b=true→Gl.is P n Q w (.ops al r fs ((t,.bool true)::Γ))) (h2:¬b=true→Gl.is P n Q w (.ops al r fs ((t,.bool false)::Γ))) (e:bT P n k g= .ops al r fs Γ:=by rfl) (hc:look Γ t=some (.bool b):=by rfl):Gl.is P n Q w g:=
  ar k g (e▸WL.LN t hc h1 h2)
theorem EG {p:Prop} {i:Decidable p} (k t:Nat) (h1:p→Gl.is P n Q w (.draw al T Pn fs ((t,.bool true)::Γ))) (h2:¬p→Gl.is P n Q w (.draw al T Pn fs ((t,.bool false)::Γ))) (e:bT P n k g= .draw al T Pn fs Γ:=by rfl) (hc:look Γ t=some (.bool (decide p)):=by rfl):Gl.is P n Q w g:=
  ar k g (e▸(fun bB=>WD.part t hc (fun hp=>h1 hp bB) fun hp=>h2 hp bB:Gl.is P n Q w (.draw al T Pn fs Γ)))
theorem yA {b:Bool} (k t:Nat) (h1:b=true→Gl.is P n Q w (.draw al T Pn fs ((t,.bool true)::Γ))) (h2:¬b=true→Gl.is P n Q w (.draw al T Pn fs ((t,.bool false)::Γ))) (e:bT P n k g= .draw al T Pn fs Γ:=by rfl) (hc:look Γ t=some (.bool b):=by rfl):Gl.is P n Q w g:=
  ar k g (e▸(fun bB=>WD.LN t hc (fun hp=>h1 hp bB) fun hp=>h2 hp bB:Gl.is P n Q w (.draw al T Pn fs Γ)))
theorem cv {c:Code} (k:Nat) (ks:List Nat) (e:bT P n k g= .code c fs Γ:=by rfl) (hk:Pk Γ ks Γ':=by repeat' first|exact Pk.z|apply Pk.s|rfl) (h:Gl.is P n Q w (.code c fs Γ')):Gl.is P n Q w g:=
  ar k g (e▸W.pick ks hk.eq h)
variable {fn:Func} {R:Value→World→Prop} {v v1 v2 v3 v4:Value}
theorem bE {t:Nat} (k:Nat) (e:bT P n k g= .ret Γ:=by rfl) (hr:fn.results= #[.tmp t]:=by rfl) (hv:look Γ t=some v:=by rfl) (h:R v w):Gl.is P n (bodyPost P fn (aX R)) w g:=ar k g (e▸X.abh hr hv h)
theorem gh {t u:Nat} (k:Nat) (e:bT P n k g= .ret Γ:=by rfl) (hr:fn.results= #[.tmp t,.tmp u]:=by rfl) (h1:look Γ t=some v1:=by rfl) (h2:look Γ u=some v2:=by rfl) (h:R (.tuple #[v1,v2]) w):Gl.is P n (bodyPost P fn (aX R)) w g:=ar k g (e▸X.abg hr h1 h2 h)
theorem mA {t u s:Nat} (k:Nat) (e:bT P n k g= .ret Γ:=by rfl) (hr:fn.results= #[.tmp t,.tmp u,.tmp s]:=by rfl) (h1:look Γ t=some v1:=by rfl) (h2:look Γ u=some v2:=by rfl) (h3:look Γ s=some v3:=by rfl) (h:R (.tuple #[v1,v2,v3]) w):Gl.is P n (bodyPost P fn (aX R)) w g:=ar k g (e▸X.abf hr h1 h2 h3 h)
theorem pO {a1:ResultVar} (k:Nat) (e:bT P n k g= .ret Γ:=by rfl) (hr:fn.results= #[a1]:=by rfl) (h1:pI P Γ w a1 v1) (h:R v1 w):Gl.is P n (bodyPost P fn (aX R)) w g:=ar k g (e▸X.WA hr h1 h)
theorem gG {a1 a2:ResultVar} (k:Nat) (e:bT P n k g= .ret Γ:=by rfl) (hr:fn.results= #[a1,a2]:=by rfl) (h1:pI P Γ w a1 v1) (h2:pI P Γ w a2 v2) (h:R (.tuple #[v1,v2]) w):Gl.is P n (bodyPost P fn (aX R)) w g:=ar k g (e▸X.Wz hr h1 h2 h)
theorem Ky {t u s q:Nat} (k:Nat) (e:bT P n k g= .ret Γ:=by rfl) (hr:fn.results= #[.tmp t,.tmp u,.tmp s,.tmp q]:=by rfl) (h1:look Γ t=some v1:=by rfl) (h2:look Γ u=some v2:=by rfl) (h3:look Γ s=some v3:=by rfl) (h4:look Γ q=some v4:=by rfl) (h:R (.tuple #[v1,v2,v3,v4]) w):Gl.is P n (bodyPost P fn (aX R)) w g:=ar k g (e▸X.abe hr h1 h2 h3 h4 h)
theorem xB {a1 a2 a3:ResultVar} (k:Nat) (e:bT P n k g= .ret Γ:=by rfl) (hr:fn.results= #[a1,a2,a3]:=by rfl) (h1:pI P Γ w a1 v1) (h2:pI P Γ w a2 v2) (h3:pI P Γ w a3 v3) (h:R (.tuple #[v1,v2,v3]) w):Gl.is P n (bodyPost P fn (aX R)) w g:=ar k g (e▸X.Wy hr h1 h2 h3 h)
theorem DY (k:Nat) (e:bT P n k g= .norm [] Γ:=by rfl) (hr:fn.results= #[]:=by rfl) (h:R (.tuple #[]) w):Gl.is P n (bodyPost P fn (aX R)) w g:=ar k g (e▸(X.adS hr h:X n (QF P (bodyPost P fn (aX R)) []) .normal Γ w))
theorem ryZ (k:Nat) (e:bT P n k g= .ret Γ:=by rfl) (hr:fn.results= #[]:=by rfl) (h:R (.tuple #[]) w):Gl.is P n (bodyPost P fn (aX R)) w g:=ar k g (e▸X.abi hr h)
theorem dc {t:Tmp} (h:look Γ t=some v:=by rfl):pI P Γ w (.tmp t) v:=SF h
theorem cS {a:Tmp} {t:TypeId} {d:TypeDesc} {g off s b:Nat} {z:Option Value} {cs:Array Value} {e:TypeId} {us:List Value} (hb:w.heap[g]?=some (.cells cs e (0,0))) (hu:P.underlying t=some d:=by exact Tb.U rfl) (hd:kP d=true:=by rfl) (hs:bX P t=some (s,b,z):=by exact Tb.S rfl) (h:look Γ a=some (.pointer (some ⟨g,off,none⟩)):=by rfl) (hc:Cp ((cs.toList.drop off).take s) us:=by repeat' first|exact Cp.z|apply Cp.s) (hl:us.length=s:=by rfl):pI P Γ w (.cell a t) (.agg us.toArray):=Lo us hu hd hs h hb hl hc.eq
theorem dA {c:Code} {B:Env} {Ro:List (List Chunk)} {L:List Chunk} {m:Nat} (k:Nat) (ks:List Nat) (I:Env→List (List Chunk)→List Chunk→Nat→Env→World→Prop) (e:bT P n k g= .code (.loop c) fs Γ:=by rfl) (hk:Pk Γ ks Γ':=by repeat' first|exact Pk.z|apply Pk.s|rfl) (i:I B Ro L m Γ' w)
    (h:∀m Γ w,I B Ro L m Γ w→Gl.is P n Q w (.code c (.iv (fun a' w'=>∃m',m'<m∧∃Γ',cR n a' Γ'∧I B Ro L m' Γ' w')::fs) Γ)):Gl.is P n Q w g:=ar k g (e▸W.lp ks I m i hk.eq h)
theorem o9 {x y:Code} {B:Env} {Ro G:List (List Chunk)} {L:List Chunk} {w0:World} (k:Nat) (bs:List Nat) (j:Nat) (H:av w0 L w G) (I:Env→List (List Chunk)→List Chunk→Env→World→Prop)
    (h1:Gl.is P n Q w (.code x (.iv (fun a' w'=>∃Γ',cR n a' Γ'∧I B Ro L Γ' w')::fs) Γ)) (h2:∀Γ w,I B Ro L Γ w→Gl.is P n Q w (.code y fs Γ)) (e:bT P n k g= .code (.seq x y) fs Γ:=by rfl) (hB:Pk Γ bs B:=by repeat' first|exact Pk.z|apply Pk.s|rfl) (hR:Dr j G Ro:=by repeat' first|exact Dr.z|apply Dr.s):Gl.is P n Q w g:=
  ar k g (e▸W.ct bs j hB.eq H hR.eq I h1 h2)
theorem abd {c:Code} (k j:Nat) (e:bT P n k g= .code (.loop c) fs Γ:=by rfl) (h:Gl.is P n Q w (.code c (.iv (tQ P c (QF P Q fs) j)::fs) Γ)):Gl.is P n Q w g:=ar k g (e▸W.roll j h)
theorem SH {c:Code} {j:Nat} (k:Nat) (ks:List Nat) (e:bT P n k g= .norm (.iv (tQ P c (QF P Q fs) (j+1))::fs) Γ:=by rfl) (hk:Pk Γ ks Γ':=by repeat' first|exact Pk.z|apply Pk.s|rfl) (h:Gl.is P n Q w (.code c (.iv (tQ P c (QF P Q fs) j)::fs) Γ')):Gl.is P n Q w g:=ar k g (e▸X.roll ks hk.eq h)
theorem cm {I:Nat→Env→World→Prop} {m m':Nat} (k:Nat) (e:bT P n k g= .norm (.iv (fun a' w'=>∃m',m'<m∧∃Γ',cR n a' Γ'∧I m' Γ' w')::fs) Γ:=by rfl) (h:I m' Γ' w) (hs:Sb Γ Γ':=by repeat' first|exact Sb.z|apply Sb.s|rfl) (hm:m'<m:=by omega):Gl.is P n Q w g:=
  ar k g (e▸fun a ha=>⟨m',hm,Γ',ha.sub hs.look,h⟩)
theorem cA {I:Env→World→Prop} (k:Nat) (e:bT P n k g= .norm (.iv (fun a' w'=>∃Γ',cR n a' Γ'∧I Γ' w')::fs) Γ:=by rfl) (h:I Γ' w) (hs:Sb Γ Γ':=by repeat' first|exact Sb.z|apply Sb.s|rfl):Gl.is P n Q w g:=
  ar k g (e▸fun a ha=>⟨Γ',ha.sub hs.look,h⟩)
theorem nyZ {I:Nat→Env→World→Prop} {m m':Nat} (k:Nat) (ks:List Nat) (e:bT P n k g= .norm (.iv (fun a' w'=>∃m',m'<m∧∃Γ',cR n a' Γ'∧I m' Γ' w')::fs) Γ:=by rfl) (hk:Pk Γ ks Γ':=by repeat' first|exact Pk.z|apply Pk.s|rfl) (h:I m' Γ' w) (hm:m'<m:=by omega):Gl.is P n Q w g:=
  ar k g (e▸fun a ha=>⟨m',hm,Γ',hk.eq▸ha.pick ks,h⟩)
theorem dyZ {I:Env→World→Prop} (k:Nat) (ks:List Nat) (e:bT P n k g= .norm (.iv (fun a' w'=>∃Γ',cR n a' Γ'∧I Γ' w')::fs) Γ:=by rfl) (hk:Pk Γ ks Γ':=by repeat' first|exact Pk.z|apply Pk.s|rfl) (h:I Γ' w):Gl.is P n Q w g:=
  ar k g (e▸fun a ha=>⟨Γ',hk.eq▸ha.pick ks,h⟩)
theorem fI {id:Nat} {l:List Oper} {L:List Chunk} {w0:World} {G:List (List Chunk)} (k:Nat) (H:av w0 L w G) (e:bT P n k g= .code (.region id l.toArray true) fs Γ:=by rfl) (bB:eT l.toArray=true:=by kernel_rfl) (h:∀w',av w0 L w' G→Gl.is P n Q w' (.draw l.toArray [] [] fs Γ)):Gl.is P n Q w g:=
  ar k g (e▸W.Pa Tb.mx bB fun hk w' k=>h w' (H.kept k) hk)
def Sk (P:Program) [Tb P] (n k j:Nat) (g:Gl) (d:Nat) (o:Op) (ty:TypeId) (al:Array Oper) (T:List Nat) (Pn:List pf) (fs:List Fr) (Γ:Env):Prop:=
  ∃pos after gd,bT P n k g= .draw al T Pn fs Γ∧al[j]?=some { dst:=some d,op:=o,type:=ty,pos,after,guard:=gd } ∧Nat.blt d n=true∧T.contains j=false∧(cL al j).all T.contains=true∧kQ al Γ { dst:=some d,op:=o,type:=ty,pos,after,guard:=gd } =some true
theorem gk (k j:Nat) (a:Sk P n k j g d o ty al T Pn fs Γ:=by exact ⟨_,_,_,rfl,rfl,rfl,rfl,rfl,rfl⟩) (D:∀w',aq P Γ w' o ty fun v' kR=>v'=v∧kR=w') (h:Gl.is P n Q w (.draw al (j::T) (⟨j,v,fun _=>True⟩::Pn) fs ((d,v)::Γ))):Gl.is P n Q w g:=by
  obtain ⟨_,_,_,e,h1,h2,h3,h4,h5⟩:=a
  exact ar k g (e▸(fun bB=>tq bB j h1 rfl D (h bB) h2 h3 h4 h5:Gl.is P n Q w (.draw al T Pn fs Γ)))
theorem cp {α:Type} {U:Ty α} {v0:Value} {xs:List α} (k j:Nat) (C:bz U w v0 xs) (a:Sk P n k j g d o ty al T Pn fs Γ:=by exact ⟨_,_,_,rfl,rfl,rfl,rfl,rfl,rfl⟩) (D:∀w',bz U w' v0 xs→aq P Γ w' o ty fun v' kR=>v'=v∧kR=w') (h:Gl.is P n Q w (.draw al (j::T) (⟨j,v,fun w'=>bz U w' v0 xs⟩::Pn) fs ((d,v)::Γ))):Gl.is P n Q w g:=by
  obtain ⟨_,_,_,e,h1,h2,h3,h4,h5⟩:=a
  exact ar k g (e▸(fun bB=>tr bB j C h1 rfl D (h bB) h2 h3 h4 h5:Gl.is P n Q w (.draw al T Pn fs Γ)))
theorem c7 {b:Nat} {ob:Obj} (k j:Nat) (C:w.heap[b]?=some ob) (a:Sk P n k j g d o ty al T Pn fs Γ:=by exact ⟨_,_,_,rfl,rfl,rfl,rfl,rfl,rfl⟩) (D:∀w',w'.heap[b]?=some ob→aq P Γ w' o ty fun v' kR=>v'=v∧kR=w') (h:Gl.is P n Q w (.draw al (j::T) (⟨j,v,fun w'=>w'.heap[b]?=some ob⟩::Pn) fs ((d,v)::Γ))):Gl.is P n Q w g:=by
  obtain ⟨_,_,_,e,h1,h2,h3,h4,h5⟩:=a
  exact ar k g (e▸(fun bB=>tb bB j C h1 rfl D (h bB) h2 h3 h4 h5:Gl.is P n Q w (.draw al T Pn fs Γ)))
theorem twZ (k j:Nat) (C:World→Prop) (hC:C w) (a:Sk P n k j g d o ty al T Pn fs Γ:=by exact ⟨_,_,_,rfl,rfl,rfl,rfl,rfl,rfl⟩) (D:∀w',C w'→aq P Γ w' o ty fun v' kR=>v'=v∧kR=w') (h:Gl.is P n Q w (.draw al (j::T) (⟨j,v,C⟩::Pn) fs ((d,v)::Γ))):Gl.is P n Q w g:=by
  obtain ⟨_,_,_,e,h1,h2,h3,h4,h5⟩:=a
  exact ar k g (e▸(fun bB=>tw bB j C hC h1 rfl D (h bB) h2 h3 h4 h5:Gl.is P n Q w (.draw al T Pn fs Γ)))
inductive A7 (p:pf→Bool):List pf→List pf→Prop
  | z:A7 p [] []
  | y {a:pf} {l m:List pf} :p a=true→A7 p l m→A7 p (a::l) (a::m)
  | x {a:pf} {l m:List pf} :p a=false→A7 p l m→A7 p (a::l) m
theorem A7.eq {p:pf→Bool} {l m:List pf} (h:A7 p l m):l.filter p=m:=by
  induction h with
  | z=>rfl
  | y e _ ih=>simp [e,ih]
  | x e _ ih=>simp [e,ih]
def AtL (P:Program) [Tb P] (n k j:Nat) (g:Gl) (d:Option Nat) (o:Op) (ty:TypeId) (al:Array Oper) (T:List Nat) (Pn:List pf) (fs:List Fr) (Γ:Env):Prop:=
  ∃pos after gd,bT P n k g= .draw al T Pn fs Γ∧al[j]?=some { dst:=d,op:=o,type:=ty,pos,after,guard:=gd } ∧(match d with|some d=>Nat.blt d n|none=>true)=true∧T.contains j=false∧(cL al j).all T.contains=true∧kQ al Γ { dst:=d,op:=o,type:=ty,pos,after,guard:=gd } =some true
theorem dj {d:Option Nat} {Pm:List pf} (k j:Nat) (a:AtL P n k j g d o ty al T Pn fs Γ:=by exact ⟨_,_,_,rfl,rfl,rfl,rfl,rfl,rfl⟩) (ho:((List.range al.size).all fun i=>[j].contains i||T.contains i|| !((cL al i).all T.contains))=true:=by rfl)
    (f:A7 (fun p=> !(DJ al j).contains p.k) Pn Pm:=by repeat' first|exact A7.z|(apply A7.y;rfl)|(apply A7.x;rfl)) (D:aq P Γ w o ty fun v w'=>Still w' Pm∧Gl.is P n Q w' (.draw al (j::T) Pm fs (B3 Γ d v))):Gl.is P n Q w g:=by
  obtain ⟨_,_,_,e,h1,h2,h3,h4,h5⟩:=a
  exact ar k g (e▸(fun bB=>WD.Xk bB j ho ⟨_,Pm,h1,h3,h4,h2,h5,f.eq,D.mono fun v w' h=>⟨h.1,h.2 bB⟩⟩:Gl.is P n Q w (.draw al T Pn fs Γ)))
theorem nJ (k j:Nat) (a:Sk P n k j g d o ty al T Pn fs Γ) (D:∀w',aq P Γ w' o ty fun v' kR=>v'=v∧kR=w') (h:Gl.is P n Q w (.draw al (j::T) (⟨j,v,fun _=>True⟩::Pn) fs ((d,v)::Γ))):Gl.is P n Q w g:=gk k j a D h
theorem aa2 {α:Type} {U:Ty α} {v0:Value} {xs:List α} (k j:Nat) (C:bz U w v0 xs) (a:Sk P n k j g d o ty al T Pn fs Γ) (D:∀w',bz U w' v0 xs→aq P Γ w' o ty fun v' kR=>v'=v∧kR=w') (h:Gl.is P n Q w (.draw al (j::T) (⟨j,v,fun w'=>bz U w' v0 xs⟩::Pn) fs ((d,v)::Γ))):Gl.is P n Q w g:=cp k j C a D h
theorem K3 {b:Nat} {ob:Obj} (k j:Nat) (C:w.heap[b]?=some ob) (a:Sk P n k j g d o ty al T Pn fs Γ) (D:∀w',w'.heap[b]?=some ob→aq P Γ w' o ty fun v' kR=>v'=v∧kR=w') (h:Gl.is P n Q w (.draw al (j::T) (⟨j,v,fun w'=>w'.heap[b]?=some ob⟩::Pn) fs ((d,v)::Γ))):Gl.is P n Q w g:=c7 k j C a D h
theorem aa1 (k j:Nat) (C:World→Prop) (hC:C w) (a:Sk P n k j g d o ty al T Pn fs Γ) (D:∀w',C w'→aq P Γ w' o ty fun v' kR=>v'=v∧kR=w') (h:Gl.is P n Q w (.draw al (j::T) (⟨j,v,C⟩::Pn) fs ((d,v)::Γ))):Gl.is P n Q w g:=twZ k j C hC a D h
theorem uR {d:Option Nat} {Pm:List pf} (k j:Nat) (a:AtL P n k j g d o ty al T Pn fs Γ) (D:aq P Γ w o ty fun v w'=>Still w' Pm∧Gl.is P n Q w' (.draw al (j::T) Pm fs (B3 Γ d v))) (ho:((List.range al.size).all fun i=>[j].contains i||T.contains i|| !((cL al i).all T.contains))=true:=by rfl) (f:A7 (fun p=> !(DJ al j).contains p.k) Pn Pm:=by repeat' first|exact A7.z|(apply A7.y;rfl)|(apply A7.x;rfl)):Gl.is P n Q w g:=dj k j a ho f D
def LdG (P:Program) (n:Nat) (Q:Exit→Act→World→Prop) (w:World) (al:Array Oper) (T:List Nat) (Pn:List pf) (fs:List Fr) (Γ:Env) (j:Nat):Prop:=eT al=true→Oh P n al (QF P Q fs) T Pn Γ w j
theorem aaS (k:Nat) (js:List Nat) (h:∀j,j∈js→LdG P n Q w al T Pn fs Γ j) (e:bT P n k g= .draw al T Pn fs Γ:=by rfl) (bm:js.isEmpty=false:=by rfl) (ho:((List.range al.size).all fun i=>js.contains i||T.contains i|| !((cL al i).all T.contains))=true:=by rfl):Gl.is P n Q w g:=
  ar k g (e▸(fun bB=>WD.Rv bB js bm ho fun j hj=>h j hj bB:Gl.is P n Q w (.draw al T Pn fs Γ)))
theorem V6 {d:Option Nat} {Pm:List pf} {j:Nat} (a:AtL P n 0 j (.draw al T Pn fs Γ) d o ty al T Pn fs Γ:=by exact ⟨_,_,_,rfl,rfl,rfl,rfl,rfl,rfl⟩) (f:A7 (fun p=> !(DJ al j).contains p.k) Pn Pm:=by repeat' first|exact A7.z|(apply A7.y;rfl)|(apply A7.x;rfl)) (D:aq P Γ w o ty fun v w'=>Still w' Pm∧Gl.is P n Q w' (.draw al (j::T) Pm fs (B3 Γ d v))):LdG P n Q w al T Pn fs Γ j:=by
  obtain ⟨_,_,_,e,h1,h2,h3,h4,h5⟩:=a
  exact fun bB=>⟨_,Pm,h1,h3,h4,h2,h5,f.eq,D.mono fun v w' h=>⟨h.1,h.2 bB⟩⟩
end
theorem cH {P:Program} {f:FuncId} {fn:Func} {c:Code} {args:List Value} {w:World} {R:Value→World→Prop} {m:Nat} {Γ:Env}
    (hf:P.funcs[f]?=some fn) (hb:fn.body=some c:=by rfl) (hm:fn.ntmps=m:=by rfl) (hl:Nat.ble args.length m=true:=by rfl) (hz:Zp 0 args Γ:=by repeat' first|exact Zp.z|apply Zp.s) (h:av w [] w []→Gl.is P m (bodyPost P fn (aX R)) w (.code c [] Γ)):Calls P f args.toArray w (aX R):=wN hf hb hm hl (hz.eq▸h (av.nil w))
theorem tW {P:Program} {f:FuncId} {fn:Func} {c:Code} {args:List Value} {w:World} {R:Value→World→Prop} {m:Nat} {Γ:Env} {L:List Chunk} {G:List (List Chunk)}
    (hp:Hp w L) (hf:P.funcs[f]?=some fn) (hb:fn.body=some c:=by rfl) (hm:fn.ntmps=m:=by rfl) (hl:Nat.ble args.length m=true:=by rfl) (hz:Zp 0 args Γ:=by repeat' first|exact Zp.z|apply Zp.s) (hG:A9 [] L G:=by repeat' first|exact A9.z|apply A9.s|apply A9.t) (h:av w L w G→Gl.is P m (bodyPost P fn (aX R)) w (.code c [] Γ)):Calls P f args.toArray w (aX R):=wN hf hb hm hl (hz.eq▸h ((av.refl hp).re (by rw [hG.eq];simp)))
abbrev aj (x:BitVec 64):Value:= .int .u64 ((x.toNat:Nat):Int)
abbrev aH {α:Type} (a:Option Addr) (l:List α) (c:Nat):Value:= .slice a l.length c
abbrev ai (x:Int):Value:= .int .i64 x
abbrev b7 (x:Nat):Value:= .int .i64 (x:Int)
abbrev cE {α:Type} (T:Ty α) (e:TypeId) (a:Option Addr) (l:List α) (c:Nat):Chunk:=ag T (.slice a l.length c) e l
abbrev cP {α:Type} (T:Ty α) (w:World) (a:Option Addr) (l:List α) (c:Nat):Prop:=bz T w (.slice a l.length c) l
instance {k:IntKind} :Df (aw k) 0:=⟨trivial⟩
instance:Df bC false:=⟨trivial⟩
instance {α:Type} :Df (aK (α:=α)) ae:=⟨trivial⟩
instance:Df eM 0:=⟨trivial⟩
instance:Df pj ⟨0,0⟩:=⟨trivial⟩
instance:Df Sq yH:=⟨trivial⟩
instance:Df dC c6:=⟨trivial⟩
instance:Df aJ cQ:=⟨trivial⟩
instance:Df br ay:=⟨trivial⟩
instance:Df fY fx:=⟨trivial⟩
instance:Df Wd tp0:=⟨trivial⟩
section
variable {P:Program} [Tb P] {w:World} {Γ:Env} {ty t e xt yt:TypeId} {K:Value→World→Prop} {x y ix:Operand} {a b:Int} {w0:World} {L:List Chunk} {G G':List (List Chunk)} {v:Value} {g off s bb:Nat} {z:Option Value} {cs:Array Value} {us l':List Value} {de:TypeDesc}
theorem aV (hx:ev Γ x=some (.int .i64 a):=by rfl) (hy:ev Γ y=some (.int .i64 b):=by rfl) (h1: -9223372036854775808≤a+b:=by omega) (h2:a+b≤9223372036854775807:=by omega) (k:K (.int .i64 (a+b)) w:=by exact ⟨rfl,rfl⟩):aq P Γ w (.binOp .add xt x y yt) ty K:=YX hx hy h1 h2 k
theorem kB (hx:ev Γ x=some (.int .i64 a):=by rfl) (hy:ev Γ y=some (.int .i64 b):=by rfl) (h1: -9223372036854775808≤a-b:=by omega) (h2:a-b≤9223372036854775807:=by omega) (k:K (.int .i64 (a-b)) w:=by exact ⟨rfl,rfl⟩):aq P Γ w (.binOp .sub xt x y yt) ty K:=YT hx hy h1 h2 k
theorem Ha (hx:ev Γ x=some (.int .i64 a):=by rfl) (hy:ev Γ y=some (.int .i64 b):=by rfl) (h1: -9223372036854775808≤a*b:=by omega) (h2:a*b≤9223372036854775807:=by omega) (k:K (.int .i64 (a*b)) w:=by exact ⟨rfl,rfl⟩):aq P Γ w (.binOp .mul xt x y yt) ty K:=YV hx hy h1 h2 k
theorem aM (C:w.heap[g]?=some (.cells cs e (0,0))) (ht:P.underlying t=some de:=by exact Tb.U rfl) (hd:kP de=false:=by rfl) (hx:ev Γ x=some (.pointer (some ⟨g,off,none⟩)):=by rfl) (hv:cs.toList[off]?=some v:=by rfl) (k:K v w:=by exact ⟨rfl,rfl⟩):aq P Γ w (.load t x) ty K:=HT ht hd hx C (by simpa using hv) k
theorem cd (C:w.heap[g]?=some (.cells cs e (0,0))) (ht:P.underlying t=some de:=by exact Tb.U rfl) (hd:kP de=true:=by rfl) (hs:bX P t=some (s,bb,z):=by exact Tb.S rfl) (hx:ev Γ x=some (.pointer (some ⟨g,off,none⟩)):=by rfl) (hc:Cp ((cs.toList.drop off).take s) us:=by repeat' first|exact Cp.z|apply Cp.s) (hl:us.length=s:=by rfl) (k:K (.agg us.toArray) w:=by exact ⟨rfl,rfl⟩):aq P Γ w (.load t x) ty K:=Nt us ht hd hs hx C hl hc.eq k
theorem jV (H:av w0 L w G) (i:Nat) (hs:bX P t=some (1,bb,z):=by exact Tb.S rfl) (hx:ev Γ x=some (.pointer (some ⟨g,off,none⟩)):=by rfl) (hy:ev Γ y=some v:=by rfl) (h1:v.oneCell'=true:=by rfl) (o:On i [Sx.aQ g cs e] [Sx.aQ g (cs.setIfInBounds off v) e] G G':=by repeat' first|exact On.z|apply On.s) (hl:Nat.blt off cs.size=true:=by rfl) (k:∀w',av w0 L w' G'→K undef w'):aq P Γ w (.store t x y) ty K:=
  Dl hs hx hy h1 (H.aQ i o.get) hl fun w' u=>k w' (o.set▸H.on i o.get u)
theorem bL (H:av w0 L w G) (i:Nat) (hs:bX P t=some (s,bb,z):=by exact Tb.S rfl) (hx:ev Γ x=some (.pointer (some ⟨g,off,none⟩)):=by rfl) {X:Array Value} (hy:ev Γ y=some (.agg X):=by rfl) (hu:Cp X.toList us:=by repeat' first|exact Cp.z|apply Cp.s) (hl:us.length=s:=by rfl) (h1:us.all (·.oneCell')=true:=by rfl) (o:On i [Sx.aQ g cs e] [Sx.aQ g l'.toArray e] G G':=by repeat' first|exact On.z|apply On.s) (hc:Cp (cs.toList.take off++us++cs.toList.drop (off+us.length)) l':=by repeat' first|exact Cp.z|apply Cp.s) (hle:Nat.ble (off+us.length) cs.size=true:=by rfl) (k:∀w',av w0 L w' G'→K undef w'):aq P Γ w (.store t x y) ty K:=
  J3 hs hx (by rw [hy,←hu.eq]) hl h1 (H.aQ i o.get) hle (Qz:=l'.toArray) (by rw [hc.eq]) fun w' u=>k w' (o.set▸H.on i o.get u)
theorem dB {z:Value} (H:av w0 L w G) (hs:bX P e=some (s,bb,some z):=by exact Tb.S rfl) (o:Ap G [[Sx.aQ w.heap.size z.cells e]] G':=by repeat' first|exact Ap.z|apply Ap.s) (k:∀w',av w0 L w' G'→K (.pointer (some ⟨w.heap.size,0,none⟩)) w'):aq P Γ w (.alloc e) ty K:=
  Qx hs fun w' u=>k w' (o.eq▸H.iZ u)
theorem jf (H:av w0 L w G) (hx:ev Γ x=some v:=by rfl) (o:Ap G [[Sx.aQ w.heap.size v.cells e]] G':=by repeat' first|exact Ap.z|apply Ap.s) (k:∀w',av w0 L w' G'→K (.pointer (some ⟨w.heap.size,0,none⟩)) w'):aq P Γ w (.box e x) ty K:=
  YW hx fun w' u=>k w' (o.eq▸H.iZ u)
def RX (P:Program) [T:Tb P] (t:TypeId):List (Nat×Value)→List Value→List Value
  | [],c=>c
  | (i,v)::r,c=>RX P t r (match Rx T.f t i with|some (off,s,_)=>c.take off++v.cells.toList++c.drop (off+s)|none=>c.set i v)
theorem cu {z:Value} {ps:Array (Nat×Operand)} {vs:List (Nat×Value)} (hs:bX P t=some (s,bb,some z):=by exact Tb.S rfl) (hp:J1 Γ ps.toList=some vs:=by rfl) (hf:Cp (RX P t vs z.cells.toList) us:=by repeat' first|exact Cp.z|apply Cp.s) (hb:P.built t vs=some us.toArray:=by kernel_rfl) (k:K (.agg us.toArray) w:=by exact ⟨rfl,rfl⟩):aq P Γ w (.build t ps) ty K:=Qw hp hb k
theorem iV {q:ByteArray} {kd:IntKind} {i:Int} (j:Nat) (ht:P.underlying t=some .string:=by exact Tb.U rfl) (hx:ev Γ x=some (.string q):=by rfl) (hi:ev Γ ix=some (.int kd i):=by rfl) (cD:i=((j:Nat):Int):=by rfl) (hj:j<q.size:=by omega) (k:K (.int .u8 ((bn q j:Nat):Int)) w:=by exact ⟨rfl,rfl⟩):aq P Γ w (.index t x ix) ty K:=J5 j ht hx hi cD hj k
theorem aA {f:FuncId} {xs:Array Operand} {ts:Array TypeId} {vs:List Value} {R:Value→World→Prop} (hk:fQ P f:=by exact Tb.C rfl) (hx:J0 Γ xs.toList=some vs:=by rfl) (c:Calls P f vs.toArray w (aX R)) (k:∀v w',R v w'→K v w'):aq P Γ w (.call { callee:= .value (.func f),args:=xs,argTypes:=ts }) ty K:=Uu hk hx (aX.calls c k)
theorem jd {src dst:TypeId} {kd ks:IntKind} {ds:TypeDesc} (hs:P.underlying src=some ds:=by exact Tb.U rfl) (hd:P.underlying dst=some (.int kd):=by exact Tb.U rfl) (hx:ev Γ x=some (.int ks a):=by rfl) (h:(if kd.signed then-(2^(kd.bits-1):Int) else 0)≤a∧a≤kd.max:=by simp [IntKind.signed,IntKind.bits,IntKind.max];omega) (k:K (.int kd a) w:=by exact ⟨rfl,rfl⟩):aq P Γ w (.convert src dst x) ty K:=Qr hs hd hx h k
variable {α:Type} {T:Ty α} {xs ys:List α} {df:α} {A:aP} {c cx:Nat}
theorem cg {kd:IntKind} {i:Int} (j:Nat) (C:bz T w v xs) (hT:T.sz=1:=by rfl) (ht:P.underlying t=some (.slice e):=by exact Tb.U rfl) (hs:bX P e=some (1,bb,z):=by exact Tb.S rfl) (hx:ev Γ x=some v:=by rfl) (hi:ev Γ ix=some (.int kd i):=by rfl) (cD:i=((j:Nat):Int):=by rfl) (hj:j<xs.length:=by omega) (k:K (bu v j) w:=by exact ⟨rfl,rfl⟩):aq P Γ w (.indexAddr t x ix) ty K:=OX j hT ht hs hx hi C cD hj k
theorem jb {kd:IntKind} {i:Int} (j:Nat) (C:bz T w v xs) (ht:P.underlying t=some (.slice e):=by exact Tb.U rfl) (hs:bX P e=some (s,bb,z):=by exact Tb.S rfl) (hT:T.sz=s:=by rfl) (hx:ev Γ x=some v:=by rfl) (hi:ev Γ ix=some (.int kd i):=by rfl) (cD:i=((j:Nat):Int):=by rfl) (hj:j<xs.length:=by omega) (k:K (bu v (j*s)) w:=by exact ⟨rfl,rfl⟩):aq P Γ w (.indexAddr t x ix) ty K:=OW j hT ht hs hx hi C cD hj k
theorem cI {j:Nat} {u:Value} (C:bz T w v xs) (hT:T.sz=1:=by rfl) (ht:P.underlying t=some de:=by exact Tb.U rfl) (hd:kP de=false:=by rfl) (hx:ev Γ x=some (bu v j):=by rfl) (hj:j<xs.length:=by omega) (D:Df T df:=by infer_instance) (he:T.enc (xs.getD j df)=[u]:=by rfl) (k:K u w:=by exact ⟨rfl,rfl⟩):aq P Γ w (.load t x) ty K:=OU j df hT ht hd hx C hj he k
theorem Fl {j:Nat} (C:bz T w v xs) (ht:P.underlying t=some de:=by exact Tb.U rfl) (hd:kP de=true:=by rfl) (hs:bX P t=some (s,bb,z):=by exact Tb.S rfl) (hT:T.sz=s:=by rfl) (hx:ev Γ x=some (bu v (j*s)):=by rfl) (hj:j<xs.length:=by omega) (D:Df T df:=by infer_instance) (he:Cp (T.enc (xs.getD j df)) us:=by repeat' first|exact Cp.z|apply Cp.s) (k:K (.agg us.toArray) w:=by exact ⟨rfl,rfl⟩):aq P Γ w (.load t x) ty K:=OS j df hT ht hd hs hx C hj he.eq k
theorem j4 {f sf:Nat} {q:Bool} {j:Nat} (C:bz T w v xs) (hT:T.sz=s:=by rfl) (hf:lX P t f=some (off,sf,q):=by exact Tb.F rfl) (hs:Nat.beq sf 0=false:=by rfl) (hx:ev Γ x=some (bu v (j*s)):=by rfl) (hj:j<xs.length:=by omega) (D:Df T df:=by infer_instance) (k:K (bu v (j*s+off)) w:=by exact ⟨rfl,rfl⟩):aq P Γ w (.fieldAddr t x f) ty K:=Wi j df hT hf hs hx C hj k
theorem nu {j:Nat} {u:Value} (C:bz T w v xs) (hT:T.sz=s:=by rfl) (ht:P.underlying t=some de:=by exact Tb.U rfl) (hd:kP de=false:=by rfl) (hx:ev Γ x=some (bu v (j*s+off)):=by rfl) (cF:Nat.blt off s=true:=by rfl) (hj:j<xs.length:=by omega) (D:Df T df:=by infer_instance) (he:(T.enc (xs.getD j df))[off]?=some u:=by rfl) (k:K u w:=by exact ⟨rfl,rfl⟩):aq P Γ w (.load t x) ty K:=OT j df hT cF ht hd hx C hj he k
theorem KA {j:Nat} (C:bz T w v xs) (hT:T.sz=s:=by rfl) (hx:ev Γ x=some (bu v (j*s)):=by rfl) (hj:j<xs.length:=by omega) (D:Df T df:=by infer_instance) (k:K (bu v (j*s)) w:=by exact ⟨rfl,rfl⟩):aq P Γ w (.nilCheck x) ty K:=St j df hT hx C hj k
theorem tX {j:Nat} {u:Value} (x':α) (H:av w0 L w G) (i:Nat) (hx:ev Γ x=some (bu v j):=by rfl) (o:On i [ag T v e xs] [ag T v e (xs.set j x')] G G':=by repeat' first|exact On.z|apply On.s) (hT:T.sz=1:=by rfl) (hs:bX P t=some (1,bb,z):=by exact Tb.S rfl) (hy:ev Γ y=some u:=by rfl) (he:T.enc x'=[u]:=by rfl) (hj:j<xs.length:=by omega) (k:∀w',av w0 L w' G'→K undef w'):aq P Γ w (.store t x y) ty K:=
  K9 j x' hT hs hx hy he (H.LP i o.get) hj fun w' u=>k w' (o.set▸H.on i o.get u)
theorem sNZ {j:Nat} (x':α) (H:av w0 L w G) (i:Nat) (hs:bX P t=some (s,bb,z):=by exact Tb.S rfl) (hx:ev Γ x=some (bu v (j*s)):=by rfl) (o:On i [ag T v e xs] [ag T v e (xs.set j x')] G G':=by repeat' first|exact On.z|apply On.s) (hT:T.sz=s:=by rfl) {X:Array Value} (hy:ev Γ y=some (.agg X):=by rfl) (hu:Cp X.toList us:=by repeat' first|exact Cp.z|apply Cp.s) (he:T.enc x'=us:=by rfl) (hj:j<xs.length:=by omega) (k:∀w',av w0 L w' G'→K undef w'):aq P Γ w (.store t x y) ty K:=
  K7 j x' hT hs hx (by rw [hy,←hu.eq]) he (H.LP i o.get) hj fun w' u=>k w' (o.set▸H.on i o.get u)
theorem SE {j:Nat} {u:Value} (x':α) (H:av w0 L w G) (i:Nat) (hx:ev Γ x=some (bu v (j*s+off)):=by rfl) (o:On i [ag T v e xs] [ag T v e (xs.set j x')] G G':=by repeat' first|exact On.z|apply On.s) (hT:T.sz=s:=by rfl) (hs:bX P t=some (1,bb,z):=by exact Tb.S rfl) (cF:Nat.blt off s=true:=by rfl) (hy:ev Γ y=some u:=by rfl) (h1:u.oneCell'=true:=by rfl) (D:Df T df:=by infer_instance) (he:T.enc x'=(T.enc (xs.getD j df)).set off u:=by rfl) (hj:j<xs.length:=by omega) (k:∀w',av w0 L w' G'→K undef w'):aq P Γ w (.store t x y) ty K:=
  K8 j df x' hT cF hs hx hy h1 he (H.LP i o.get) hj fun w' u=>k w' (o.set▸H.on i o.get u)
theorem dL {z:Value} {len:Nat} {ps:Array (Nat×Operand)} {vs:List (Nat×Value)} (T:Ty α) (xs:List α) (H:av w0 L w G) (ht:P.underlying t=some (.slice e):=by exact Tb.U rfl) (hs:bX P e=some (s,bb,some z):=by exact Tb.S rfl) (hT:T.sz=s:=by rfl) (hp:J1 Γ ps.toList=some vs:=by rfl) (hlen:xs.length=len:=by rfl) (sG:Nat.ble (len*s) 16777216=true:=by rfl) (An:Nat.beq (len*s) 0=false:=by rfl)
    (hf:Instr.fill (fun i=>some (i*s,s)) ((Array.range (len*s)).map (z.cells[· %z.cells.size]!)) vs=some (T.all xs).toArray:=by kernel_rfl) (VP:(T.all xs).toArray.size=len*s:=by kernel_rfl) (o:Ap G [[ag T (.slice (some ⟨w.heap.size,0,none⟩) xs.length xs.length) e xs]] G':=by repeat' first|exact Ap.z|apply Ap.s) (k:∀w',av w0 L w' G'→K (.slice (some ⟨w.heap.size,0,none⟩) xs.length xs.length) w'):aq P Γ w (.buildSlice t len ps) ty K:=
  zw hT ht hs hp hlen sG An hf VP rfl fun w' u=>k w' (o.eq▸H.iZ u)
theorem kJ {z:Value} {q:Operand} {df':aP} (H:av w0 L w G) (i:Nat) (C:bz T w (.slice A ys.length cx) ys) (o:On i [ag T (.slice df' xs.length c) e xs] [] G G':=by repeat' first|exact On.z|apply On.s) (ht:P.underlying t=some (.slice e):=by exact Tb.U rfl) (hs:bX P e=some (s,bb,some z):=by exact Tb.S rfl) (hT:T.sz=s:=by rfl) (Oy:z.cells.size=s:=by rfl) (RN:ev Γ q=some (.slice df' xs.length c):=by rfl) (hx:ev Γ x=some (.slice A ys.length cx):=by rfl)
    (hb:(xs.length+ys.length)*bb≤140737488355328:=by simp;omega) (kW:xs.length+ys.length≤9223372036854775807:=by simp;omega) (k:∀a' c' w',av w0 L w' (G.set i [ag T (.slice a' (xs++ys).length c') e (xs++ys)])→K (.slice a' (xs++ys).length c') w'):aq P Γ w (.call { callee:= .builtin .append,args:= #[q,x],argTypes:= #[t,t] }) ty K:=
  BD hT ht hs Oy RN hx (H.LP i o.get) C hb kW fun a' c' w' u=>k a' c' w' (H.on i o.get u)
end
theorem av.W1 {w w':World} {L A:List Chunk} {G:List (List Chunk)} (h:av w L w' G) (i:Nat) (hi:G[i]?=some A):av w L w' (G.set i [many A]):=
  h.on i hi ⟨fS.2 (by rw [List.append_nil];exact h.bU i hi),cM.refl _ _,fun g hg=> .inl (by rw [eZ,List.append_nil] at hg;exact hg)⟩
theorem wb:∀(l:List Rn) (s:Bs),(∀r,r∈l→r.hi<256)→∀x,x<256→(l.foldl (fun s q=>qV s (bG q.lo q.hi)) s).has x=(s.has x||l.any fun r=>decide (r.lo≤x∧x≤r.hi))
  | [],s,_,x,hx=>by simp
  | r::l,s,hl,x,hx=>by
    rw [List.foldl_cons,wb l _ (fun q hq=>hl q (List.mem_cons_of_mem _ hq)) x hx,HC _ _ hx,we (hl r List.mem_cons_self) hx,List.any_cons,Bool.or_assoc]
theorem yW {x:Nat} (hx:x<256):(bZ ⟨#[97,108,110,117,109]⟩).has x=dI ⟨#[97,108,110,117,109]⟩ x:=by
  show (mh [⟨48,57⟩,⟨65,90⟩,⟨97,122⟩]).has x=(jk x||jt x||gR x)
  unfold mh
  rw [wb _ _ (by simp) x hx,dz]
  simp only [jk,jt,gR,List.any_cons,List.any_nil,Bool.or_false,Bool.false_or]
  rw [Bool.or_comm]
theorem Qk {c:Nat} (h:¬(c=110∨c=116∨c=114∨c=100∨c=68∨c=115∨c=83∨c=119∨c=87)) (x:Nat):ju c x=(decide (x=c)&& !dI ⟨#[97,108,110,117,109]⟩ x):=by
  unfold ju
  rw [if_neg oz,if_neg oz,if_neg oz,if_neg oz,if_neg oz,if_neg oz,if_neg oz,if_neg oz,if_neg oz]
theorem Qj {c:Nat} (h:c=110∨c=116∨c=114∨c=100∨c=68∨c=115∨c=83∨c=119∨c=87):(cO c).1=cJ (ju c)∧(cO c).2=true∧cJ (ju c)≠Bs.zero:=by
  rcases h with rfl|rfl|rfl|rfl|rfl|rfl|rfl|rfl|rfl<;>exact of_decide_eq_true (by decide+kernel)
theorem Ue {c:Nat} (hc:c<256):(cO c).1=cJ (ju c)∧(cO c).2=decide (cJ (ju c)≠Bs.zero):=by
  by_cases h:c=110∨c=116∨c=114∨c=100∨c=68∨c=115∨c=83∨c=119∨c=87
  · obtain ⟨h1,h2,h3⟩:=Qj h
    exact ⟨h1,by rw [h2,decide_eq_true h3]⟩
  · have hp:=Qk h
    by_cases ha:(bZ ⟨#[97,108,110,117,109]⟩).has c=true
    · have e:cO c=(Bs.zero,false):=by
        unfold cO;rw [if_neg oz,if_neg oz,if_neg oz,if_neg oz,if_neg oz,if_pos ha]
      have e2:Bs.zero=cJ (ju c):=ov fun x hx=>by
        rw [dz,hp x]
        by_cases ex:x=c
        · subst ex;rw [←yW hx,ha];simp
        · simp [ex]
      rw [e,←e2];simp
    · have e:cO c=(fZ [c],true):=by
        unfold cO;rw [if_neg oz,if_neg oz,if_neg oz,if_neg oz,if_neg oz,if_neg ha]
      have hl:∀d,d∈[c]→d<256:=by intro d hd;simp only [List.mem_singleton] at hd;omega
      have e2:fZ [c]=cJ (ju c):=ov fun x hx=>by
        rw [mO hl hx,hp x]
        by_cases ex:x=c
        · subst ex;rw [yW hx] at ha;simp [ha]
        · simp [ex]
      have e3:fZ [c]≠Bs.zero:=fun e4=>by
        have h5:=mO hl hc
        rw [e4,dz] at h5;simp at h5
      rw [e,←e2];exact ⟨rfl,(decide_eq_true e3).symm⟩
def Si (l:List Nd) (i:Nat) (T:Tr) (j:Nat) (wt:Int):Prop:=j≤i∧1≤wt∧wt≤(i:Int)+1∧∃F:List Tr,Gs F∧(F.length:Int)=wt∧l.take (j+1)=l.take (i+1-T.flat.length)++bp F
theorem Si.start {l:List Nd} {i:Nat} {T:Tr} (h:Sub l i T):Si l i T i 1:=
  ⟨Nat.le_refl _,by omega,by omega,[T],by intro x hx;simp at hx;subst hx;exact h.1,rfl,by rw [cb];exact h.eq⟩
theorem lY (F:List Tr):F.length≤(bp F).length:=by
  induction F with
  | nil=>simp [bp]
  | cons T F ih=>
    have:=dV T
    have e:(bp (T::F)).length=T.flat.length+(bp F).length:=by simp [bp]
    rw [e,List.length_cons];omega
theorem Si.step {l:List Nd} {i j:Nat} {T:Tr} {wt:Int} (hT:Sub l i T) (h:Si l i T j wt):0≤bR (l.getD j cQ).kind∧((wt+(bR (l.getD j cQ).kind-1)=0∧(j:Int)=(i:Int)+1-T.flat.length)∨(wt+(bR (l.getD j cQ).kind-1)≠0∧1≤j∧Si l i T (j-1) (wt+(bR (l.getD j cQ).kind-1)))):=by
  obtain ⟨hj,hw,_,F,hF,hl,e⟩:=h
  have hi:=hT.2.1
  have hle:=hT.le
  rcases List.eq_nil_or_concat F with rfl|⟨F0,S,rfl⟩
  · simp at hl;omega
  · rw [List.concat_eq_append] at*
    have hS:S.wk:=hF S (by simp)
    have hlen:i+1-T.flat.length≤j:=by
      have h9:=congrArg List.length e
      have:=lY (F0++[S])
      simp only [List.length_append,List.length_take,List.length_singleton] at h9 this;omega
    rw [bJ,cb,dP S,←List.append_assoc,←List.append_assoc,ka l oz] at e
    have h1:=List.append_inj' e rfl
    have hr:l.getD j cQ=S.root:=by simpa using h1.2
    have hk:=dQ hS
    rw [hr,hk]
    have e2:l.take j=l.take (i+1-T.flat.length)++bp (F0++S.kids):=by rw [bJ,←List.append_assoc];exact h1.1
    have Hu:(F0.length:Int)+1=wt:=by simpa using hl
    have Ht:((F0++S.kids).length:Int)=wt+((S.kids.length:Int)-1):=by rw [List.length_append];omega
    have h9:=congrArg List.length e2
    have h8:=lY (F0++S.kids)
    simp only [List.length_append,List.length_take] at h9 h8
    refine ⟨by omega,?_⟩
    by_cases h0:wt+((S.kids.length:Int)-1)=0
    · have hn:F0++S.kids=[]:=List.length_eq_zero_iff.1 (by rw [List.length_append];omega)
      rw [hn] at h9
      simp only [yZ,List.length_nil] at h9
      exact .inl ⟨h0,by omega⟩
    · refine .inr ⟨h0,by omega,by omega,by omega,by omega,F0++S.kids,fun x hx=>?_,Ht,by rw [show j-1+1=j by omega];exact e2⟩
      rcases List.mem_append.1 hx with h7|h7
      · exact hF x (by simp [h7])
      · exact iR hS x h7
def bQ:Tr→Nat→List Int
  | .leaf _,_=>[]
  | .rep _ _,i=>[(i:Int)-1]
  | .bin _ _ b,i=>[(i:Int)-1-b.flat.length,(i:Int)-1]
def U4:Tr→Nat→Nat→Int
  | _,i,0=>(i:Int)-1
  | .leaf _,i,_=>(i:Int)-1
  | .rep _ a,i,_=>(i:Int)-1-a.flat.length
  | .bin _ _ b,i,1=>(i:Int)-1-b.flat.length
  | .bin _ a b,i,_=>(i:Int)-1-b.flat.length-a.flat.length
def DU (T:Tr) (i:Nat) (out:List Int) (at_ n:Int):Prop:=∃m,m≤T.kids.length∧n=(T.kids.length:Int)-m∧at_=U4 T i m∧out=(bQ T i).drop (T.kids.length-m)
theorem o5 (T:Tr) (i:Nat):(bQ T i).length=T.kids.length:=by cases T<;>rfl
theorem DU.start (T:Tr) (i:Nat):DU T i [] ((i:Int)-1) (T.kids.length:Int):=⟨0,Nat.zero_le _,by omega,by cases T<;>rfl,by rw [Nat.sub_zero,←o5 T i,List.drop_length]⟩
theorem DU.step {l:List Nd} {T:Tr} {i:Nat} {out:List Int} {at_ n:Int} (hT:Sub l i T) (h:DU T i out at_ n) (hn:0<n):0≤at_∧at_<(i:Int)∧∃S,Sub l at_.toNat S∧DU T i (at_::out) (at_+1-S.flat.length-1) (n-1):=by
  obtain ⟨m,hm,e1,e2,e3⟩:=h
  cases T with
  | leaf nd=>simp [Tr.kids] at hm e1;omega
  | rep nd a=>
    simp only [Tr.kids,List.length_singleton] at*
    obtain rfl:m=0:=by omega
    have hs:=hT.rep
    simp only [U4] at e2
    subst e2
    refine ⟨by omega,by omega,a,by rw [show ((i:Int)-1).toNat=i-1 by omega];exact hs.2.1,1,by simp [Tr.kids],by simp [Tr.kids];omega,by simp only [U4];omega,by rw [e3];simp [bQ,Tr.kids]⟩
  | bin nd a b=>
    simp only [Tr.kids,List.length_cons,List.length_nil] at*
    have hs:=hT.bin
    rcases (by omega:m=0∨m=1) with rfl|rfl
    · simp only [U4] at e2
      subst e2
      refine ⟨by omega,by omega,b,by rw [show ((i:Int)-1).toNat=i-1 by omega];exact hs.2.1,1,by simp [Tr.kids],by simp [Tr.kids];omega,by simp only [U4];omega,by rw [e3];simp [bQ,Tr.kids]⟩
    · simp only [U4] at e2
      subst e2
      refine ⟨by omega,by omega,a,by rw [show ((i:Int)-1-b.flat.length).toNat=i-1-b.flat.length by omega];exact hs.2.2.2,2,by simp [Tr.kids],by simp [Tr.kids];omega,by simp only [U4];omega,by rw [e3];simp [bQ,Tr.kids]⟩
theorem DU.fin {T:Tr} {i:Nat} {out:List Int} {at_ n:Int} (h:DU T i out at_ n) (hn:n≤0):out=bQ T i:=by
  obtain ⟨m,hm,e1,e2,e3⟩:=h
  rw [e3,show T.kids.length-m=0 by omega,List.drop_zero]
theorem DU.len {T:Tr} {i:Nat} {out:List Int} {at_ n:Int} (h:DU T i out at_ n):(out.length:Int)+n=(T.kids.length:Int)∧T.kids.length≤2:=by
  obtain ⟨m,hm,e1,e2,e3⟩:=h
  rw [e3,List.length_drop,o5]
  refine ⟨by omega,?_⟩
  cases T<;>simp [Tr.kids]
def Kr (T:Tr) (i:Nat) (out:List Int) (at_ n:Int):Prop:=DU T i out.reverse at_ n
theorem Kr.start (T:Tr) (i:Nat):Kr T i [] ((i:Int)-1) (T.kids.length:Int):=DU.start T i
theorem Kr.step {l:List Nd} {T:Tr} {i:Nat} {out:List Int} {at_ n:Int} (hT:Sub l i T) (h:Kr T i out at_ n) (hn:0<n):0≤at_∧at_<(i:Int)∧∃S,Sub l at_.toNat S∧Kr T i (out++[at_]) (at_+1-S.flat.length-1) (n-1):=by
  obtain ⟨h1,h2,S,h3,h4⟩:=DU.step hT h hn
  exact ⟨h1,h2,S,h3,by unfold Kr;rw [List.reverse_append];exact h4⟩
theorem Kr.fin {T:Tr} {i:Nat} {out:List Int} {at_ n:Int} (h:Kr T i out at_ n) (hn:n≤0):out.reverse=bQ T i:=DU.fin h hn
theorem Kr.len {T:Tr} {i:Nat} {out:List Int} {at_ n:Int} (h:Kr T i out at_ n):(out.length:Int)+n=(T.kids.length:Int)∧T.kids.length≤2:=by
  have:=DU.len h;rw [List.length_reverse] at this;exact this
theorem Q2.kC {l:List Nd} {k i:Nat} {out:List Int} (h:Q2 l k out) (hi:i<k): -1≤out.getD i 0∧out.getD i 0≤(i:Int):=by
  rcases h.2 i hi with ⟨T,hT,e⟩|⟨_,e⟩
  · have:=dV T;have:=hT.le;omega
  · omega
def cf (o:List Bool):Nat:=(o.filter (!·)).length
theorem F8 (o:List Bool):∀(i:Nat),i<o.length→o.getD i false=false→cf (o.set i true)+1=cf o:=by
  induction o with
  | nil=>intro i h;simp at h
  | cons x xs ih=>
    intro i hi hx
    cases i with
    | zero=>simp at hx;subst hx;simp [cf]
    | succ i=>
      have:=ih i (by simpa using hi) (by simpa using hx)
      cases x<;>simp [cf] at* <;>omega
theorem lx {o:List Bool} {i:Nat} (h:i<o.length):(o.set i true).getD i false=true:=by simp [List.getD_eq_getElem?_getD,h]
theorem fj {o:List Bool} {i j:Nat} (h:o.getD j false=true):(o.set i true).getD j false=true:=by
  by_cases e:i=j
  · subst e
    have:i<o.length:=by
      rcases Nat.lt_or_ge i o.length with h1|h1
      · exact h1
      · simp [List.getD_eq_getElem?_getD,List.getElem?_eq_none h1] at h
    exact lx this
  · simp [List.getD_eq_getElem?_getD,List.getElem?_set_ne e] at h ⊢;exact h
theorem oj {o:List Bool} {i j:Nat} (h:(o.set i true).getD j false=true):i=j∨o.getD j false=true:=by
  by_cases e:i=j
  · exact .inl e
  · simp [List.getD_eq_getElem?_getD,List.getElem?_set_ne e] at h ⊢;exact .inr h
structure xU (nx:Int→List Int) (n:Nat) (t0:List Int) (o:List Bool):Prop where
  len:o.length=n
  init:∀t,t∈t0→o.getD t.toNat false=true
  j7:∀s:Nat,o.getD s false=true→∀t,t∈nx s→o.getD t.toNat false=true
  min:∀Q:Int→Prop,(∀t,t∈t0→Q t)→(∀s,Q s→∀t,t∈nx s→Q t)→∀s:Nat,o.getD s false=true→Q s
structure A1 (n:Nat) (t0:List Int) (o:List Bool) (k:Nat):Prop where
  len:o.length=n
  init:∀i,i<k→o.getD (t0.getD i 0).toNat false=true
  only:∀s:Nat,o.getD s false=true→(s:Int)∈t0
structure pH (nx:Int→List Int) (n:Nat) (t0:List Int) (o:List Bool) (todo:List Int) (s:Int) (k:Nat):Prop where
  len:o.length=n
  init:∀t,t∈t0→o.getD t.toNat false=true
  Ai:∀t,t∈todo→(0≤t∧t<(n:Int))∧o.getD t.toNat false=true
  j7:∀r:Nat,o.getD r false=true→(r:Int)∈todo∨(r:Int)=s∨∀t,t∈nx r→o.getD t.toNat false=true
  now:0≤s∧s<(n:Int)∧o.getD s.toNat false=true
  part:∀i,i<k→o.getD ((nx s).getD i 0).toNat false=true
  min:∀Q:Int→Prop,(∀t,t∈t0→Q t)→(∀s,Q s→∀t,t∈nx s→Q t)→∀s:Nat,o.getD s false=true→Q s
structure uk (nx:Int→List Int) (n:Nat) (t0:List Int) (o:List Bool) (todo:List Int):Prop where
  len:o.length=n
  init:∀t,t∈t0→o.getD t.toNat false=true
  Ai:∀t,t∈todo→(0≤t∧t<(n:Int))∧o.getD t.toNat false=true
  j7:∀r:Nat,o.getD r false=true→(r:Int)∈todo∨∀t,t∈nx r→o.getD t.toNat false=true
  min:∀Q:Int→Prop,(∀t,t∈t0→Q t)→(∀s,Q s→∀t,t∈nx s→Q t)→∀s:Nat,o.getD s false=true→Q s
section
variable {nx:Int→List Int} {n:Nat} {t0 todo:List Int} {o:List Bool} {s:Int} {k:Nat}
theorem A1.start (n:Nat) (t0:List Int):A1 n t0 (List.replicate n false) 0:=⟨by simp,fun i h=>by omega,fun s h=>by
  simp only [List.getD_eq_getElem?_getD,List.getElem?_replicate] at h
  split at h<;>simp at h⟩
theorem A1.step (h:A1 n t0 o k) (hk:k<t0.length) (hr:∀t,t∈t0→0≤t∧t<(n:Int)):A1 n t0 (o.set (t0.getD k 0).toNat true) (k+1):=by
  have hm:t0.getD k 0∈t0:=by simp [List.getD_eq_getElem?_getD,hk]
  have hb:=hr _ hm
  refine ⟨by simp [h.len],oF (fun i hi=>fj (h.init i hi)) (lx (by rw [h.len];omega)),fun r Tm=>?_⟩
  rcases oj Tm with e|e
  · rw [←e,Int.toNat_of_nonneg hb.1];exact hm
  · exact h.only r e
theorem A1.done (h:A1 n t0 o k) (hk:¬k<t0.length) (hr:∀t,t∈t0→0≤t∧t<(n:Int)):uk nx n t0 o t0:=by
  have hi:∀t,t∈t0→o.getD t.toNat false=true:=fun t ht=>by
    obtain ⟨i,hi,rfl⟩:=List.mem_iff_getElem.1 ht
    have:=h.init i oz
    simpa [List.getD_eq_getElem?_getD,hi] using this
  exact ⟨h.len,hi,fun t ht=>⟨hr t ht,hi t ht⟩,fun r Tm=> .inl (h.only r Tm),fun Q hQ _ s hs=>hQ _ (h.only s hs)⟩
theorem uk.pop (h:uk nx n t0 o todo) (ht:0<todo.length):pH nx n t0 o (todo.take (todo.length-1)) (todo.getD (todo.length-1) 0) 0:=by
  have hl:todo.length-1<todo.length:=by omega
  have hm:todo.getD (todo.length-1) 0∈todo:=by simp [List.getD_eq_getElem?_getD,hl]
  obtain ⟨⟨b1,b2⟩,b3⟩:=h.Ai _ hm
  refine ⟨h.len,h.init,fun t ht=>h.Ai t (List.mem_of_mem_take ht),fun r hr=>?_,⟨b1,b2,b3⟩,fun i hi=>by omega,h.min⟩
  rcases h.j7 r hr with c|c
  · obtain ⟨i,hi,e⟩:=List.mem_iff_getElem.1 c
    by_cases hh:i=todo.length-1
    · right;left;subst hh;rw [←e];simp [List.getD_eq_getElem?_getD,hl]
    · left;rw [←e];exact List.mem_iff_getElem.2 ⟨i,by simp;omega,by simp⟩
  · exact .inr (.inr c)
theorem pH.yB (h:pH nx n t0 o todo s k) (hk:k<(nx s).length) (hm:o.getD ((nx s).getD k 0).toNat false=true):pH nx n t0 o todo s (k+1):=
  ⟨h.len,h.init,h.Ai,h.j7,h.now,oF h.part hm,h.min⟩
theorem pH.new (h:pH nx n t0 o todo s k) (hk:k<(nx s).length) (hb:0≤(nx s).getD k 0∧(nx s).getD k 0<(n:Int)):pH nx n t0 (o.set ((nx s).getD k 0).toNat true) (todo++[(nx s).getD k 0]) s (k+1):=by
  have Bd:(nx s).getD k 0∈nx s:=by simp [List.getD_eq_getElem?_getD,hk]
  have RG:=lx (o:=o) (i:=((nx s).getD k 0).toNat) (by rw [h.len];omega)
  refine ⟨by simp [h.len],fun t ht=>fj (h.init t ht),fun t ht=>?_,fun r hr=>?_,⟨h.now.1,h.now.2.1,fj h.now.2.2⟩,oF (fun i hi=>fj (h.part i hi)) RG,fun Q q1 q2 r hr=>?_⟩
  · rcases List.mem_append.1 ht with c|c
    · exact ⟨(h.Ai t c).1,fj (h.Ai t c).2⟩
    · simp only [List.mem_singleton] at c;subst c;exact ⟨hb,RG⟩
  · rcases oj hr with e|e
    · left;rw [←e,Int.toNat_of_nonneg hb.1];simp
    · rcases h.j7 r e with c|c|c
      · left;exact List.mem_append_left _ c
      · exact .inr (.inl c)
      · exact .inr (.inr fun t ht=>fj (c t ht))
  · rcases oj hr with e|e
    · rw [←e,Int.toNat_of_nonneg hb.1]
      have:=h.min Q q1 q2 s.toNat h.now.2.2
      rw [Int.toNat_of_nonneg h.now.1] at this
      exact q2 s this _ Bd
    · exact h.min Q q1 q2 r e
theorem pH.done (h:pH nx n t0 o todo s k) (hk:¬k<(nx s).length):uk nx n t0 o todo:=by
  refine ⟨h.len,h.init,h.Ai,fun r hr=>?_,h.min⟩
  rcases h.j7 r hr with c|c|c
  · exact .inl c
  · right;intro t ht
    rw [c] at ht
    obtain ⟨i,hi,rfl⟩:=List.mem_iff_getElem.1 ht
    have:=h.part i oz
    simpa [List.getD_eq_getElem?_getD,hi] using this
  · exact .inr c
theorem uk.fin (h:uk nx n t0 o todo) (ht:¬0<todo.length):xU nx n t0 o:=
  ⟨h.len,h.init,fun r hr=>(h.j7 r hr).resolve_left (by
    have h0:todo=[]:=List.length_eq_zero_iff.1 oz
    rw [h0];simp),h.min⟩
end
theorem R1 (o:List Bool):cf o≤o.length:=List.length_filter_le _ _
def ZR (P:Program) (f:FuncId) (fc:List Value) (nx:Int→List Int) (n:Nat) (S:List Nat) (w:World):Prop:=
  ∀w':World,cM S w w'→∀x:Int,0≤x→x<(n:Int)→Calls P f (#[.int .i64 x]++fc.toArray) w' (aX fun v kR=>∃a c,v= .slice a (nx x).length c∧ax w' [] kR [ag (aw .i64) (.slice a (nx x).length c) 3 (nx x)])
def nQ (xs:List Int):List Int:=xs.mergeSort fun x y=>decide (x≤y)
theorem IL (xs:List Int) (x:Int):x∈nQ xs↔x∈xs:=by simp [nQ]
theorem jT (xs:List Int):(nQ xs).length=xs.length:=by simp [nQ]
theorem wI (xs:List Int):(Lib.compact xs).length≤xs.length:=by
  simp only [Lib.compact,Lib.compactUpTo,List.length_map]
  exact Nat.le_trans (List.length_filter_le _ _) (by simp)
theorem Dp (l:List Int) (x:Int):x∈Lib.compact l↔x∈l:=by
  have r9:∀i (h:i<l.length),l.toArray[i]! =l[i]:=fun i h=>by simp [h]
  simp only [Lib.compact,Lib.compactUpTo,List.mem_map,List.mem_filter,List.mem_range]
  constructor
  · rintro ⟨i,⟨hi,_⟩,rfl⟩
    rw [r9 i hi];exact List.getElem_mem hi
  · intro hx
    obtain ⟨i,hi,rfl⟩:=List.mem_iff_getElem.1 hx
    induction i with
    | zero=>exact ⟨0,⟨hi,by simp [Lib.keeps]⟩,r9 0 hi⟩
    | succ i ih=>
      by_cases hk:Lib.keeps l.toArray (i+1)=true
      · exact ⟨i+1,⟨hi,hk⟩,r9 (i+1) hi⟩
      · have uG:i<l.length:=by omega
        have he:l[i+1]=l[i]:=by
          simp only [Lib.keeps,decide_eq_true_eq,not_or,ne_eq,Classical.not_not] at hk
          have h2:=hk.2
          rw [Nat.add_sub_cancel,r9 (i+1) hi,r9 i uG] at h2
          exact h2
        rw [he]
        exact ih uG (List.getElem_mem uG)
def aZ (d:au):List Int:=Lib.compact (nQ d.cls)
theorem qH (d:au) (x:Int):x∈aZ d↔x∈d.cls:=by rw [aZ,Dp,IL]
theorem uu {d:au} (h:aD d=true) {x:Int} (hx:x∈aZ d):0≤x∧x<d.width:=by
  obtain ⟨i,hi,rfl⟩:=List.mem_iff_getElem.1 ((qH d x).1 hx)
  have:=lH (bh.1 h).2.1 i hi
  simpa [List.getD_eq_getElem?_getD,hi] using this
def Jk (d:au) (s:Int):List Int:=(aZ d).map fun c=>d.next.getD (s*d.width+c).toNat 0
theorem nO (d:au):(aZ d).length≤d.cls.length:=by have:=wI (nQ d.cls);rw [jT] at this;exact this
theorem L2 {d:au} {s:Int} {k:Nat} (h:k<(aZ d).length):((aZ d).take k).map (fun c=>d.next.getD (s*d.width+c).toNat 0)++[d.next.getD (s*d.width+(aZ d).getD k 0).toNat 0]=((aZ d).take (k+1)).map (fun c=>d.next.getD (s*d.width+c).toNat 0):=by
  rw [List.take_add_one,List.getElem?_eq_getElem h,List.map_append];simp [List.getD_eq_getElem?_getD,List.getElem?_eq_getElem h]
theorem L3 {d:au} (h:aD d=true) {s t:Int} (h0:0≤s) (h1:s<(d.acc.length:Int)) (ht:t∈Jk d s):0≤t∧t<(d.acc.length:Int):=by
  obtain ⟨c,hc,rfl⟩:=List.mem_map.1 ht
  have hb:=uu h hc
  have VO:=eA h h0 h1 hb.1 hb.2
  exact lH (bh.1 h).2.2 _ oz
theorem Po (d:au) (s:Int):(Jk d s).length≤d.cls.length:=by have:=nO d;simp [Jk];omega
theorem fT {l:List Lv} {i:Nat} (h:i<l.length) (t:Lv):(l.set i t).getD i fx=t:=by
  rw [List.getD_eq_getElem?_getD,List.getElem?_set_self h];rfl
theorem yO {p:PS} (h:p.fh=true) (hl:0<p.st.length):aO p=if ((p.st.set (p.st.length-1) ⟨(p.st.getD (p.st.length-1) fx).parts+1,(p.st.getD (p.st.length-1) fx).aL⟩).getD (p.st.length-1) fx).parts>1
    then ⟨p.out++[nd 5],p.st.set (p.st.length-1) ⟨(p.st.getD (p.st.length-1) fx).parts+1,(p.st.getD (p.st.length-1) fx).aL⟩,false⟩ else ⟨p.out,p.st.set (p.st.length-1) ⟨(p.st.getD (p.st.length-1) fx).parts+1,(p.st.getD (p.st.length-1) fx).aL⟩,false⟩:=by
  rw [fT oz]
  unfold aO iU dY
  rw [if_pos h]
  by_cases h2:(p.st.getD (p.st.length-1) fx).parts+1>1
  · rw [if_pos h2,if_pos h2]
  · rw [if_neg h2,if_neg h2]
def KI (q:PS) (L:Nat):List Lv:=(q.st.set L ⟨0,(q.st.getD L fx).aL⟩).set L ⟨((q.st.set L ⟨0,(q.st.getD L fx).aL⟩).getD L fx).parts,((q.st.set L ⟨0,(q.st.getD L fx).aL⟩).getD L fx).aL+1⟩
theorem mW {p:PS} (hl:0<p.st.length):bD p=⟨if ((KI (aO p) (p.st.length-1)).getD (p.st.length-1) fx).aL>1 then (if ((aO p).st.getD (p.st.length-1) fx).parts=0 then (aO p).out++[nd 2] else (aO p).out)++[nd 6] else (if ((aO p).st.getD (p.st.length-1) fx).parts=0 then (aO p).out++[nd 2] else (aO p).out),
    KI (aO p) (p.st.length-1),(aO p).fh⟩:=by
  have hj:=di p
  have hL:p.st.length-1<(aO p).st.length:=by omega
  have e1:((aO p).st.set (p.st.length-1) ⟨0,((aO p).st.getD (p.st.length-1) fx).aL⟩).getD (p.st.length-1) fx=⟨0,((aO p).st.getD (p.st.length-1) fx).aL⟩:=fT hL _
  have e2:KI (aO p) (p.st.length-1)=(aO p).st.set (p.st.length-1) ⟨0,((aO p).st.getD (p.st.length-1) fx).aL+1⟩:=by unfold KI;rw [e1,List.set_set]
  rw [e2,fT hL,yP]
  unfold bD vx kt iU dY
  rw [hj]
theorem gI (p:PS):(aO p).out.length≤p.out.length+1:=by
  unfold aO;split
  · simp only [];split<;>simp
  · omega
def iQ (p:PS) (K:Int):Prop:=0≤K∧∀i,0≤(p.st.getD i fx).parts∧(p.st.getD i fx).parts≤K∧0≤(p.st.getD i fx).aL∧(p.st.getD i fx).aL≤K
theorem zE {l:List Lv} {K:Int} {i:Nat} {t:Lv} (h:∀j,0≤(l.getD j fx).parts∧(l.getD j fx).parts≤K∧0≤(l.getD j fx).aL∧(l.getD j fx).aL≤K) (ht:0≤t.parts∧t.parts≤K+1∧0≤t.aL∧t.aL≤K+1):∀j,0≤((l.set i t).getD j fx).parts∧((l.set i t).getD j fx).parts≤K+1∧0≤((l.set i t).getD j fx).aL∧((l.set i t).getD j fx).aL≤K+1:=by
  intro j
  by_cases e:i=j
  · subst e
    by_cases hl:i<l.length
    · rw [fT hl];exact ht
    · rw [List.set_eq_of_length_le oz];have:=h i;omega
  · have:(l.set i t).getD j fx=l.getD j fx:=by simp [List.getD_eq_getElem?_getD,List.getElem?_set_ne e]
    rw [this];have:=h j;omega
theorem iQ.join {p:PS} {K:Int} (h:iQ p K):iQ (aO p) (K+1):=by
  refine ⟨by have:=h.1;omega,?_⟩
  unfold aO
  split
  · have h9:=h.2 (p.st.length-1)
    exact zE h.2 (by unfold iU;simp only [];omega)
  · intro i;have:=h.2 i;omega
theorem iQ.choice {p:PS} {K:Int} (h:iQ p K):iQ (bD p) (K+1):=by
  refine ⟨by have:=h.1;omega,?_⟩
  unfold bD aO
  split
  · unfold dY iU
    simp only [List.length_set,List.set_set]
    have h9:=h.2 (p.st.length-1)
    refine zE h.2 ?_
    by_cases hl:p.st.length-1<p.st.length
    · rw [fT hl];simp only [];have:=h.1;omega
    · rw [List.set_eq_of_length_le oz];simp only [];have:=h.1;omega
  · have h9:=h.2 (p.st.length-1)
    exact zE h.2 (by unfold iU;simp only [];have:=h.1;omega)
theorem iQ.tok {p:PS} {K:Int} (h:iQ p K) (t:Tk):iQ (fC p t) (K+1):=by
  have hj:=h.join
  have hc:=h.choice
  have hm:iQ p (K+1):=⟨by have:=h.1;omega,fun i=>by have:=h.2 i;omega⟩
  unfold fC
  split
  · exact hm
  split
  · exact hj
  split
  · exact hj
  split
  · exact hj
  split
  · exact hc
  split
  · exact hm
  split
  · refine ⟨hj.1,fun i=>?_⟩
    unfold kj
    simp only []
    rcases Nat.lt_trichotomy i (aO p).st.length with h1|h1|h1
    · rw [List.getD_eq_getElem?_getD,List.getElem?_append_left h1,←List.getD_eq_getElem?_getD];exact hj.2 i
    · subst h1
      rw [List.getD_eq_getElem?_getD,List.getElem?_append_right (Nat.le_refl _),Nat.sub_self]
      have:=hj.1;simp [fx];omega
    · rw [List.getD_eq_getElem?_getD,List.getElem?_eq_none im]
      have:=hj.1;simp [fx];omega
  · refine ⟨hc.1,fun i=>?_⟩
    unfold iN
    simp only []
    rw [List.getD_eq_getElem?_getD,List.getElem?_take]
    split
    · rw [←List.getD_eq_getElem?_getD];exact hc.2 i
    · have:=hc.1;simp [fx];omega
theorem LQ (p:PS):kj p=⟨(aO p).out,(aO p).st++[fx],(aO p).fh⟩:=by unfold kj;rw [yP]
def vz (p:PS):Int:=if p.st.length>20 then 4 else 0
def vy (p:PS):PS:=if p.st.length>20 then p else kj p
def qw (p:PS):Int:=if p.st.length=1 then 3 else 0
def qv (p:PS):PS:=if p.st.length=1 then p else iN p
def BY (p:PS) (t:Tk):Int:=if cX t then 9 else if p.fh=true then 0 else 3
def BV (p:PS) (t:Tk):PS:=if cX t then p else if p.fh=true then ⟨p.out++[⟨7,Bs.zero,t.lo,t.hi⟩],p.st,p.fh⟩ else p
theorem Dt (p:PS):(bD p).out.length≤p.out.length+3:=by
  have:=gI p
  unfold bD vx kt
  simp only []
  split<;>split<;>simp<;>omega
theorem OP (p:PS) (t:Tk):(fC p t).out.length≤p.out.length+3∧(fC p t).st.length≤p.st.length+1:=by
  have h1:=gI p;have h2:=di p;have h3:=Dt p;have h4:=gO p
  unfold fC
  split
  · omega
  split
  · simp [eX];omega
  split
  · simp [eX];omega
  split
  · simp [eX];omega
  split
  · omega
  split
  · simp
  split
  · simp [kj];omega
  · simp [iN];omega
theorem va (l:List Tk):∀k,k≤l.length→(dE l k).out.length≤3*k∧(dE l k).st.length≤k+1
  | 0,_=>by simp [ke,LI]
  | k+1,h=>by
    have ih:=va l k oz
    rw [gW oz]
    have:=OP (dE l k) (l.getD k c6)
    omega
theorem BQ {p:PS} {K M:Int} (h:iQ p K) (hm:K≤M):iQ p M:=⟨by have:=h.1;omega,fun i=>by have:=h.2 i;omega⟩
theorem zy (l:List Tk):∀k,k≤l.length→iQ (dE l k) (k:Int)
  | 0,_=>⟨by omega,fun i=>by
      rcases i with _|i
      · simp [ke,LI,fx]
      · simp [ke,LI,fx]⟩
  | k+1,h=>by
    rw [gW oz]
    exact (zy l k oz).tok _
theorem lL {l:List Tk} (hg:dG l) {i:Nat} (hi:i<l.length) (h:(l.getD i c6).kind=3∨(l.getD i c6).kind=2):(dE l (i+1)).fh=false:=by
  rw [gW hi,By (hg.1 i hi),decide_eq_false_iff_not];omega
theorem Jy {l:List Tk} (hg:dG l) {i:Nat} (hi:i<l.length) (h2:¬(l.getD i c6).kind=2) (h4:¬(l.getD i c6).kind=4) (h5:(l.getD i c6).kind=5→(dE l i).fh=false):(l.getD i c6).kind=1∨(l.getD i c6).kind=3∨(l.getD i c6).kind=6∨(l.getD i c6).kind=7:=by
  have hk:=hg.kind hi
  have h9:¬(l.getD i c6).kind=5:=fun h=>by
    have he:=hg.1 i hi
    have hr:=h5 h
    by_cases hb:cX (l.getD i c6)
    · rw [Dg h hb] at he;omega
    · rw [y5 h hb (by rw [hr];decide)] at he;omega
  omega
theorem OL {l:List Tk} {i e op:Int} (h:VW l i e op) (he:e=0) (ho:¬op>0):dG l:=by
  rcases h with ⟨_,_,h1,h2⟩|⟨k,_,_,_,h1,h2⟩
  · have:=gX l l.length
    exact ⟨h1,by omega⟩
  · omega
theorem Sl {l:List Tk} {i e op:Int} (h:VW l i e op) (he:¬e=0):∃k,k<l.length∧i=(k:Int)∧∀en,DT l en [] (l.getD k c6).pos e:=by
  rcases h with ⟨_,h0,_⟩|⟨k,hk,hi,h1,h2,h3⟩
  · omega
  · exact ⟨k,hk,hi,fun en=> .inl ⟨k,hk,h1,h2,rfl,rfl,h3⟩⟩
theorem OK {l:List Tk} {i e op:Int} (h:VW l i e op) (he:e=0) (ho:op>0) (en:Int):DT l en [] en 3:=by
  rcases h with ⟨_,_,h1,h2⟩|⟨k,_,_,_,h1,h2⟩
  · exact .inr ⟨h1,.inl ⟨by omega,rfl,rfl,rfl⟩⟩
  · omega
theorem Pg {l:List Tk} (hg:dG l) {x:List Nd} (h:(bD (dE l l.length)).out=x) (hx:x.length>512) (en:Int):DT l en [] 0 4:=
  .inr ⟨hg.1,.inr ⟨hg.2,.inl ⟨by rw [h];exact hx,rfl,rfl,rfl⟩⟩⟩
theorem W9 {l:List Tk} (hg:dG l) {x:List Nd} (h:(bD (dE l l.length)).out=x) (hx:¬x.length>512) (en:Int):DT l en x 0 0:=
  .inr ⟨hg.1,.inr ⟨hg.2,.inr ⟨by rw [h];omega,h.symm,rfl,rfl⟩⟩⟩
theorem pB (p:PS) {t:Tk} (h:t.kind=1):dM p t=0∧fC p t=eX p ⟨1,t.set,0,0⟩:=by
  have e:dM p t=0:=by unfold dM;rw [if_pos oz]
  exact ⟨e,by unfold fC;rw [if_neg oz,if_pos h]⟩
theorem pv (p:PS) {t:Tk} (h:t.kind=6):dM p t=0∧fC p t=eX p (nd 3):=by
  have e:dM p t=0:=by unfold dM;rw [if_pos oz]
  exact ⟨e,by unfold fC;rw [if_neg oz,if_neg oz,if_pos h]⟩
theorem po (p:PS) {t:Tk} (h:t.kind=7):dM p t=0∧fC p t=eX p (nd 4):=by
  have e:dM p t=0:=by unfold dM;rw [if_pos oz]
  exact ⟨e,by unfold fC;rw [if_neg oz,if_neg oz,if_neg oz,if_pos h]⟩
theorem pA (p:PS) {t:Tk} (h:t.kind=2):dM p t=0∧fC p t=bD p:=by
  have e:dM p t=0:=by unfold dM;rw [if_pos oz]
  exact ⟨e,by unfold fC;rw [if_neg oz,if_neg oz,if_neg oz,if_neg oz,if_pos h]⟩
theorem pw (p:PS) {t:Tk} (h:t.kind=5):dM p t=BY p t∧fC p t=BV p t:=by
  have e:dM p t=BY p t:=by unfold dM BY;rw [if_neg oz,if_pos h]
  refine ⟨e,?_⟩
  unfold fC
  rw [e]
  unfold BY BV
  by_cases hb:cX t
  · rw [if_pos hb,if_pos hb,if_pos dk]
  · rw [if_neg hb,if_neg hb]
    by_cases hr:p.fh=true
    · rw [if_pos hr,if_pos hr,if_neg dk,if_neg oz,if_neg oz,if_neg oz,if_neg oz,if_pos h]
    · rw [if_neg hr,if_neg hr,if_pos dk]
theorem pz (p:PS) {t:Tk} (h:t.kind=3):dM p t=vz p∧fC p t=vy p:=by
  have e:dM p t=vz p:=by unfold dM vz;rw [if_neg oz,if_neg oz,if_pos h]
  refine ⟨e,?_⟩
  unfold fC
  rw [e]
  unfold vz vy
  by_cases hb:p.st.length>20
  · rw [if_pos hb,if_pos hb,if_pos dk]
  · rw [if_neg hb,if_neg hb,if_neg dk,if_neg oz,if_neg oz,if_neg oz,if_neg oz,if_neg oz,if_pos h]
theorem py (p:PS) {t:Tk} (h:t.kind=4):dM p t=qw p∧fC p t=qv p:=by
  have e:dM p t=qw p:=by unfold dM qw;rw [if_neg oz,if_neg oz,if_neg oz,if_pos h]
  refine ⟨e,?_⟩
  unfold fC
  rw [e]
  unfold qw qv
  by_cases hb:p.st.length=1
  · rw [if_pos hb,if_pos hb,if_pos dk]
  · rw [if_neg hb,if_neg hb,if_neg dk,if_neg oz,if_neg oz,if_neg oz,if_neg oz,if_neg oz,if_neg oz]
theorem pk (p:PS) {t:Tk} (h:¬t.kind=1∧¬t.kind=6∧¬t.kind=7∧¬t.kind=2∧¬t.kind=5∧¬t.kind=3∧¬t.kind=4):dM p t=9∧fC p t=p:=by
  have e:dM p t=9:=by unfold dM;rw [if_neg oz,if_neg oz,if_neg oz,if_neg oz]
  exact ⟨e,by unfold fC;rw [if_pos oz]⟩
def oe:List ByteArray:=nj.map (·.1)
def S1 (name:ByteArray) (l:List ByteArray):Bool:=l.any fun x=>decide (x=name)
theorem vM {name:ByteArray} {l:List ByteArray} :S1 name l=true↔name∈l:=by
  unfold S1;rw [List.any_eq_true]
  constructor
  · rintro ⟨x,hx,h⟩;rw [←of_decide_eq_true h];exact hx
  · intro h;exact ⟨name,h,decide_eq_true rfl⟩
theorem CM (name:ByteArray):isOk name=S1 name oe:=by
  have e:oe=[⟨#[97,108,110,117,109]⟩,⟨#[97,108,112,104,97]⟩,⟨#[98,108,97,110,107]⟩,⟨#[99,110,116,114,108]⟩,⟨#[100,105,103,105,116]⟩,⟨#[103,114,97,112,104]⟩,⟨#[108,111,119,101,114]⟩,⟨#[112,114,105,110,116]⟩,⟨#[112,117,110,99,116]⟩,⟨#[115,112,97,99,101]⟩,⟨#[117,112,112,101,114]⟩,⟨#[120,100,105,103,105,116]⟩]:=rfl
  unfold isOk
  rw [e,Bool.eq_iff_iff,vM,decide_eq_true_eq]
  simp only [List.mem_cons,List.not_mem_nil,or_false]
  constructor
  · rintro (h|h|h|h|h|h|h|h|h|h|h|h)<;>simp [h]
  · rintro (h|h|h|h|h|h|h|h|h|h|h|h)<;>simp [h]
theorem F5 {name:ByteArray} (h:name∉oe):bZ name=Bs.zero∧fA name=false:=by
  have hf:nj.find? (fun r=>decide (r.1=name))=none:=by
    rw [List.find?_eq_none]
    intro x hx hd
    exact h (List.mem_map.2 ⟨x,hx,by simpa using hd⟩)
  unfold bZ fA
  rw [hf];exact ⟨rfl,rfl⟩
theorem F7:∀j:Fin 12,bZ (oe.getD j.val .empty)=cJ (dI (oe.getD j.val .empty))∧fA (oe.getD j.val .empty)=true:=by decide+kernel
theorem MD {name:ByteArray} (h:isOk name=false) (x:Nat):dI name x=false:=by
  unfold isOk at h
  have h2:=of_decide_eq_false h
  simp only [not_or] at h2
  obtain ⟨h1,h2,h3,h4,h5,h6,h7,h8,h9,h10,h11,h12⟩:=h2
  unfold dI
  rw [if_neg h1,if_neg h2,if_neg h3,if_neg h4,if_neg h5,if_neg h6,if_neg h7,if_neg h8,if_neg h9,if_neg h10,if_neg h11,if_neg h12]
theorem NN (name:ByteArray):bZ name=cJ (dI name)∧fA name=isOk name:=by
  by_cases h:name∈oe
  · obtain ⟨j,hj,e⟩:=List.mem_iff_getElem.1 h
    have e2:oe.getD j .empty=name:=by rw [List.getD_eq_getElem?_getD,List.getElem?_eq_getElem hj];exact e
    obtain ⟨h1,h2⟩:=F7 ⟨j,hj⟩
    simp only [e2] at h1 h2
    exact ⟨h1,by rw [h2,CM,vM.2 h]⟩
  · obtain ⟨h1,h2⟩:=F5 h
    have h3:isOk name=false:=by rw [CM];exact Bool.eq_false_iff.2 fun e=>h (vM.1 e)
    refine ⟨by rw [h1];exact ov fun x _=>by rw [dz,MD h3],by rw [h2,h3]⟩
theorem qI {p:Prop} (h:p:=by assumption):p:=h
def dK (c:Nat):Bool:=decide (48≤c∧c≤57∨97≤c|||32∧c|||32≤102)
def dm (c:Nat):Nat:=if 48≤c∧c≤57 then c-48 else if 97≤c|||32∧c|||32≤102 then (c|||32)-97+10 else 0
def dJ (c:Nat):Int:=if 48≤c∧c≤57 then (c:Int)-48 else if 97≤c∧c≤102 then (c:Int)-97+10 else if 65≤c∧c≤70 then (c:Int)-65+10 else-1
theorem P0:∀c:Fin 256,dK c.val=decide (0≤dJ c.val)∧(0≤dJ c.val→(dm c.val:Int)=dJ c.val)∧dm c.val<16∧dJ c.val<16∧ -1≤dJ c.val:=by decide+kernel
theorem ql {c:Nat} (h:c<256):dK c=decide (0≤dJ c)∧(0≤dJ c→(dm c:Int)=dJ c)∧dm c<16∧dJ c<16∧ -1≤dJ c:=P0 ⟨c,h⟩
def sv (s:Bs):Int:=if (bj s).length=1 then (((bj s).getD 0 0:Nat):Int) else-1
def iD (s:Bs) (nm:Bool):Int:=if nm=true then-1 else sv s
theorem Kg {c:Nat} (h:c<256):bj (fZ [c])=[c]:=by
  have h1:∀b,b∈bj (fZ [c])↔b=c:=fun b=>by
    rw [eN]
    constructor
    · rintro ⟨h2,h3⟩;rw [mO (by intro x hx;simp at hx;omega) h2] at h3;simpa using h3
    · rintro rfl;exact ⟨h,by rw [mO (by intro x hx;simp at hx;omega) h];simp⟩
  have r8:(bj (fZ [c])).Nodup:=List.Nodup.sublist List.filter_sublist List.nodup_range
  match hl:bj (fZ [c]),h1,r8 with
  | [],h1,_=>exact absurd ((h1 c).2 rfl) (by simp)
  | [x],h1,_=>rw [(h1 x).1 (by simp)]
  | x::y::l,h1,r8=>
    have a:=(h1 x).1 (by simp);have b:=(h1 y).1 (by simp)
    rw [a,b] at r8;simp at r8
theorem G5 {c:Nat} (h:c<256):sv (fZ [c])=c:=by unfold sv;rw [Kg h];simp
theorem LS (s:Bs): -1≤sv s∧sv s<256:=by
  unfold sv
  split
  · rename_i h
    have h1:(bj s).getD 0 0∈bj s:=by
      rw [List.getD_eq_getElem?_getD,List.getElem?_eq_getElem oz];exact List.getElem_mem _
    have:=(eN.1 h1).1;omega
  · omega
theorem range_one {c:Nat} (h:c<256):bG c c=fZ [c]:=by
  unfold bG fZ
  rw [show c+1-c=1 by omega];rfl
def fo (p:ByteArray) (a:Nat):Option (Bs×Nat):=
  if a+1≥p.size then none
  else if bn p (a+1)=120 then
    (if a+3≥p.size then none else if dK (bn p (a+2))=true∧dK (bn p (a+3))=true then some (fZ [dm (bn p (a+2))*16+dm (bn p (a+3))],a+4) else none)
  else if (cO (bn p (a+1))).2=true then some ((cO (bn p (a+1))).1,a+2) else none
def iw (p:ByteArray) (j i:Nat):Bool:=decide (j≤i∧i+1<p.size∧bn p i=58∧bn p (i+1)=93)
def cutAt (p:ByteArray) (j:Nat):Option Nat:=(List.range p.size).find? (iw p j)
theorem wG {p:ByteArray} {j i:Nat} (h:iw p j i=true) (hl:∀k,j≤k→k<i→iw p j k=false):cutAt p j=some i:=by
  have hi:i<p.size:=by unfold iw at h;rw [decide_eq_true_eq] at h;omega
  unfold cutAt
  rw [List.find?_range_eq_some]
  refine ⟨h,by simpa using hi,fun k hk=>?_⟩
  by_cases e:j≤k
  · simp [hl k e hk]
  · have:iw p j k=false:=by unfold iw;rw [decide_eq_false_iff_not];omega
    simp [this]
theorem wH {p:ByteArray} {j:Nat} (hl:∀k,j≤k→k+1<p.size→iw p j k=false):cutAt p j=none:=by
  unfold cutAt
  rw [List.find?_eq_none]
  intro k hk
  by_cases e:j≤k∧k+1<p.size
  · rw [hl k e.1 e.2];decide
  · have:iw p j k=false:=by unfold iw;rw [decide_eq_false_iff_not];omega
    rw [this];decide
theorem y9 {p:ByteArray} {j i:Nat} (h:cutAt p j=some i):j≤i∧i+1<p.size:=by
  have:=List.find?_some h
  unfold iw at this;rw [decide_eq_true_eq] at this;exact ⟨this.1,this.2.1⟩
def named (p:ByteArray) (a:Nat):Bool:=decide (a+1<p.size∧bn p a=91∧bn p (a+1)=58)
def dS (p:ByteArray) (a:Nat):Option (Bs×Nat×Bool):=
  if bn p a=92 then (fo p a).map fun x=>(x.1,x.2,false)
  else if named p a=true then
    (match cutAt p (a+2) with
    | none=>none
    | some i=>if fA (p.extract (a+2) i)=true then some (bZ (p.extract (a+2) i),i+2,true) else none)
  else some (fZ [bn p a],a+1,false)
theorem eY {p:ByteArray} {a n:Nat} {s:Bs} (h:fo p a=some (s,n)):a<n∧n≤p.size:=by
  unfold fo at h
  split at h
  · cases h
  · split at h
    · split at h
      · cases h
      · split at h
        · simp only [Option.some.injEq,Prod.mk.injEq] at h;omega
        · cases h
    · split at h
      · simp only [Option.some.injEq,Prod.mk.injEq] at h;omega
      · cases h
theorem ym {p:ByteArray} {a n:Nat} {s:Bs} {nm:Bool} (ha:a<p.size) (h:dS p a=some (s,n,nm)):a<n∧n≤p.size:=by
  unfold dS at h
  split at h
  · rcases he:fo p a with _|⟨s2,n2⟩
    · rw [he] at h;cases h
    · rw [he] at h;simp only [Option.map_some,Option.some.injEq,Prod.mk.injEq] at h
      have:=eY he;omega
  · split at h
    · split at h
      · cases h
      · rename_i i hc
        split at h
        · simp only [Option.some.injEq,Prod.mk.injEq] at h
          have:=y9 hc;omega
        · cases h
    · simp only [Option.some.injEq,Prod.mk.injEq] at h;omega
def uz (p:ByteArray) (s:Bs) (n:Nat) (nm:Bool):Bool:=decide (0≤iD s nm∧n+1<p.size∧bn p n=45∧bn p (n+1)≠93)
def iY (p:ByteArray) (a:Nat):Option (Bs×Nat):=
  match dS p a with
  | none=>none
  | some (s,n,nm)=>
    if uz p s n nm=true then
      (match dS p (n+1) with
      | none=>none
      | some (s2,n2,Kz)=>if iD s2 Kz<iD s nm then none else some (bG (iD s nm).toNat (iD s2 Kz).toNat,n2))
    else some (s,n)
theorem su {p:ByteArray} {a n:Nat} {s:Bs} (ha:a<p.size) (h:iY p a=some (s,n)):a<n∧n≤p.size:=by
  unfold iY at h
  rcases h1:dS p a with _|⟨s1,n1,nm1⟩
  · rw [h1] at h;cases h
  · rw [h1] at h;simp only at h
    have r1:=ym ha h1
    split at h
    · rename_i hr
      unfold uz at hr;rw [decide_eq_true_eq] at hr
      rcases h2:dS p (n1+1) with _|⟨s2,n2,Kz⟩
      · rw [h2] at h;cases h
      · rw [h2] at h;simp only at h
        have r2:=ym oz h2
        split at h
        · cases h
        · simp only [Option.some.injEq,Prod.mk.injEq] at h;omega
    · simp only [Option.some.injEq,Prod.mk.injEq] at h;omega
inductive uo (p:ByteArray):Nat→Bs→Option (Bs×Nat)→Prop
  | stop {i:Nat} {s:Bs} :i<p.size→bn p i=93→uo p i s (some (s,i+1))
  | over {i:Nat} {s:Bs} :¬i<p.size→uo p i s none
  | bad {i:Nat} {s:Bs} :i<p.size→bn p i≠93→iY p i=none→uo p i s none
  | step {i n:Nat} {s x:Bs} {r:Option (Bs×Nat)} :i<p.size→bn p i≠93→iY p i=some (x,n)→uo p n (qV s x) r→uo p i s r
theorem uo.uniq {p:ByteArray} {i:Nat} {s:Bs} {r r':Option (Bs×Nat)} (h:uo p i s r) (h':uo p i s r'):r=r':=by
  induction h generalizing r' with
  | stop h1 h2=>cases h' with
    | stop=>rfl
    | over h3=>exact absurd h1 h3
    | bad _ h3=>exact absurd h2 h3
    | step _ h3=>exact absurd h2 h3
  | over h1=>cases h' with
    | stop h3=>exact absurd h3 h1
    | over=>rfl
    | bad h3=>exact absurd h3 h1
    | step h3=>exact absurd h3 h1
  | bad h1 h2 h3=>cases h' with
    | stop _ h4=>exact absurd h4 h2
    | over h4=>exact absurd h1 h4
    | bad=>rfl
    | step _ _ h4=>rw [h3] at h4;cases h4
  | step h1 h2 h3 _ ih=>cases h' with
    | stop _ h4=>exact absurd h4 h2
    | over h4=>exact absurd h1 h4
    | bad _ _ h4=>rw [h3] at h4;cases h4
    | step _ _ h4 h5=>rw [h3] at h4;cases h4;exact ih h5
def nB (p:ByteArray) (a:Nat):Bool:=decide (a+1<p.size∧bn p (a+1)=94)
def fp (p:ByteArray) (a:Nat):Nat:=if nB p a=true then a+2 else a+1
def wW (not:Bool) (s:Bs):Bs:=if not=true then fF s else s
def s9 (p:ByteArray) (a:Nat) (r:Option (Bs×Nat)):Prop:=∃q,uo p (fp p a) Bs.zero q∧r=q.map fun x=>(wW (nB p a) x.1,x.2)
theorem s9.uniq {p:ByteArray} {a:Nat} {r r':Option (Bs×Nat)} (h:s9 p a r) (h':s9 p a r'):r=r':=by
  obtain ⟨q,h1,rfl⟩:=h;obtain ⟨q',h2,rfl⟩:=h';rw [h1.uniq h2]
theorem uo.kC {p:ByteArray} {i:Nat} {s:Bs} {r:Option (Bs×Nat)} (h:uo p i s r):∀x n,r=some (x,n)→i<n∧n≤p.size:=by
  induction h with
  | stop h1 h2=>intro x n e;simp only [Option.some.injEq,Prod.mk.injEq] at e;omega
  | over=>intro x n e;cases e
  | bad=>intro x n e;cases e
  | step h1 h2 h3 _ ih=>intro x n e;have:=su h1 h3;have:=ih x n e;omega
theorem s9.kC {p:ByteArray} {a n:Nat} {x:Bs} (h:s9 p a (some (x,n))):a<n∧n≤p.size:=by
  obtain ⟨q,h1,e⟩:=h
  rcases q with _|⟨y,k⟩
  · cases e
  · simp only [Option.map_some,Option.some.injEq,Prod.mk.injEq] at e
    have:=h1.kC y k rfl
    unfold fp at this;split at this<;>omega
def uK (p:ByteArray) (j:Nat):Bool:=decide (j<p.size∧48≤bn p j∧bn p j≤57)
def dH (p:ByteArray) (a:Nat):Nat→Nat
  | 0=>0
  | k+1=>10*dH p a k+(bn p (a+k)-48)
def kD (p:ByteArray) (a:Nat):Nat:=if uK p a=true then if uK p (a+1)=true then if uK p (a+2)=true then 3 else 2 else 1 else 0
theorem yN (p:ByteArray) (a:Nat):kD p a≤3:=by unfold kD;split<;>(try split)<;>(try split)<;>omega
theorem sD {p:ByteArray} {a k:Nat} (h:k<kD p a):uK p (a+k)=true:=by
  unfold kD at h
  split at h
  · rename_i h1
    split at h
    · rename_i h2
      split at h
      · rename_i h3
        rcases (by omega:k=0∨k=1∨k=2) with rfl|rfl|rfl
        all_goals first|exact h1|exact h2|exact h3
      · rcases (by omega:k=0∨k=1) with rfl|rfl
        all_goals first|exact h1|exact h2
    · obtain rfl:k=0:=by omega
      exact h1
  · omega
theorem S8 {p:ByteArray} {a k:Nat} (hk:k≤kD p a) (h:k=3∨uK p (a+k)=false):k=kD p a:=by
  rcases Nat.lt_or_ge k (kD p a) with h1|h1
  · have h2:=sD h1
    have:=yN p a
    rcases h with h|h
    · omega
    · rw [h2] at h;cases h
  · omega
theorem PB {p:ByteArray} {a k:Nat} (hk:k≤kD p a) (h3:k<3) (h:uK p (a+k)=true):k+1≤kD p a:=by
  rcases Nat.lt_or_ge k (kD p a) with h1|h1
  · omega
  · exfalso
    have e:k=kD p a:=by omega
    unfold kD at e
    split at e
    · split at e
      · split at e
        · omega
        · rename_i h4;subst e;exact h4 h
      · rename_i h4;subst e;exact h4 h
    · rename_i h4;subst e;exact h4 h
theorem Gt (p:ByteArray) (a:Nat):∀k,(∀j,j<k→uK p (a+j)=true)→dH p a k<10^k
  | 0,_=>by simp [dH]
  | k+1,h=>by
    have ih:=Gt p a k (fun j hj=>h j oz)
    have hd:=h k oz
    unfold uK at hd;rw [decide_eq_true_eq] at hd
    simp only [dH];rw [Nat.pow_succ];omega
def b8 (p:ByteArray) (a:Nat):Bool:=decide (0<kD p a∧dH p a (kD p a)≤32∧(bn p a≠48∨kD p a=1))
theorem lN (p:ByteArray) (a:Nat):b8 p a=decide (¬(kD p a=0∨kD p a=3∨dH p a (kD p a)>32∨kD p a=2∧bn p a=48)):=by
  unfold b8
  rw [decide_eq_decide]
  have h3:=yN p a
  have key:kD p a=3→bn p a≠48→dH p a (kD p a)>32:=fun h h48=>by
    have hd:=sD (p:=p) (a:=a) (k:=0) oz
    unfold uK at hd;rw [decide_eq_true_eq,Nat.add_zero] at hd
    rw [h];simp only [dH,Nat.add_zero];omega
  constructor
  · rintro ⟨h1,h2,h4⟩ h9
    rcases h9 with h9|h9|h9|h9
    · omega
    · rcases h4 with h4|h4
      · have:=key h9 h4;omega
      · omega
    · omega
    · rcases h4 with h4|h4
      · exact h4 h9.2
      · omega
  · intro h9
    refine ⟨?_,?_,?_⟩
    · refine Classical.byContradiction fun h=>h9 (.inl oz)
    · refine Classical.byContradiction fun h=>h9 (.inr (.inr (.inl oz)))
    · refine Classical.byContradiction fun h=>?_
      have hk:kD p a≠0:=fun e=>h9 (.inl e)
      have PU:kD p a≠3:=fun e=>h9 (.inr (.inl e))
      exact h9 (.inr (.inr (.inr ⟨by omega,by omega⟩)))
def jr (p:ByteArray) (a:Nat):Int:=if b8 p a=true then ((dH p a (kD p a):Nat):Int) else-1
def gE (p:ByteArray) (a:Nat):Option (Int×Int×Nat):=
  let i:=a+1+kD p (a+1)
  if¬b8 p (a+1)=true∨i≥p.size then none
  else if bn p i=125 then some ((dH p (a+1) (kD p (a+1)):Nat),(dH p (a+1) (kD p (a+1)):Nat),i+1)
  else if bn p i≠44∨i+1≥p.size then none
  else if bn p (i+1)=125 then some ((dH p (a+1) (kD p (a+1)):Nat),-1,i+2)
  else
    let k:=i+1+kD p (i+1)
    if jr p (i+1)<(dH p (a+1) (kD p (a+1)):Nat)∨k≥p.size∨bn p k≠125 then none
    else some ((dH p (a+1) (kD p (a+1)):Nat),jr p (i+1),k+1)
theorem eS {p:ByteArray} {a n:Nat} {lo hi:Int} (h:gE p a=some (lo,hi,n)):a<n∧n≤p.size:=by
  unfold gE at h
  simp only at h
  split at h
  · cases h
  · split at h
    · simp only [Option.some.injEq,Prod.mk.injEq] at h;omega
    · split at h
      · cases h
      · split at h
        · simp only [Option.some.injEq,Prod.mk.injEq] at h;omega
        · split at h
          · cases h
          · simp only [Option.some.injEq,Prod.mk.injEq] at h;omega
def jn (k:Int) (a:Nat) (s:Bs) (lo hi:Int):Tk:=⟨k,a,s,lo,hi⟩
def iB (p:ByteArray) (a:Nat):Option (Tk×Nat):=
  if bn p a=124 then some (jn 2 a Bs.zero 0 0,a+1)
  else if bn p a=40 then some (jn 3 a Bs.zero 0 0,a+1)
  else if bn p a=41 then some (jn 4 a Bs.zero 0 0,a+1)
  else if bn p a=94 then some (jn 6 a Bs.zero 0 0,a+1)
  else if bn p a=36 then some (jn 7 a Bs.zero 0 0,a+1)
  else if bn p a=42 then some (jn 5 a Bs.zero 0 (-1),a+1)
  else if bn p a=43 then some (jn 5 a Bs.zero 1 (-1),a+1)
  else if bn p a=63 then some (jn 5 a Bs.zero 0 1,a+1)
  else if bn p a=123 then (gE p a).map fun x=>(jn 5 a Bs.zero x.1 x.2.1,x.2.2)
  else if bn p a=46 then some (jn 1 a (fF (fZ [10])) 0 0,a+1)
  else if bn p a=92 then (fo p a).map fun x=>(jn 1 a x.1 0 0,x.2)
  else some (jn 1 a (fZ [bn p a]) 0 0,a+1)
def DQ (p:ByteArray) (a:Nat) (r:Option (Tk×Nat)):Prop:=
  (bn p a=91∧∃q,s9 p a q∧r=q.map fun x=>(jn 1 a x.1 0 0,x.2))∨(bn p a≠91∧r=iB p a)
theorem DQ.uniq {p:ByteArray} {a:Nat} {r r':Option (Tk×Nat)} (h:DQ p a r) (h':DQ p a r'):r=r':=by
  rcases h with ⟨h1,q,h2,rfl⟩|⟨h1,rfl⟩<;>rcases h' with ⟨uI,q',uH,rfl⟩|⟨uI,rfl⟩
  · rw [h2.uniq uH]
  · exact absurd h1 uI
  · exact absurd uI h1
  · rfl
theorem gy {α:Type} {p:ByteArray} {a n:Nat} {t:Tk} {q:Option (α×Nat)} {f:α→Tk} (hq:∀x k,q=some (x,k)→a<k∧k≤p.size) (h:some (t,n)=q.map fun x=>(f x.1,x.2)):a<n∧n≤p.size:=by
  rcases q with _|⟨x,k⟩
  · cases h
  · simp only [Option.map_some,Option.some.injEq,Prod.mk.injEq] at h
    have:=hq x k rfl;omega
theorem KZ {p:ByteArray} {a n:Nat} {t:Tk} (ha:a<p.size) (h:some (t,n)=iB p a):a<n∧n≤p.size:=by
  unfold iB at h
  have one:∀ {t2:Tk},some (t,n)=some (t2,a+1)→a<n∧n≤p.size:=fun h=>by simp only [Option.some.injEq,Prod.mk.injEq] at h;omega
  by_cases h124:bn p a=124
  · rw [if_pos h124] at h
    first
      | exact one h
      | exact gy (q:=fo p a) (f:=fun x=>jn 1 a x 0 0) (fun x k e=>eY e) h
      | (rcases hr:gE p a with _|⟨lo,hi,k⟩
         · rw [hr] at h;cases h
         · rw [hr] at h;simp only [Option.map_some,Option.some.injEq,Prod.mk.injEq] at h;have:=eS hr;omega)
  rw [if_neg h124] at h
  by_cases h40:bn p a=40
  · rw [if_pos h40] at h
    first
      | exact one h
      | exact gy (q:=fo p a) (f:=fun x=>jn 1 a x 0 0) (fun x k e=>eY e) h
      | (rcases hr:gE p a with _|⟨lo,hi,k⟩
         · rw [hr] at h;cases h
         · rw [hr] at h;simp only [Option.map_some,Option.some.injEq,Prod.mk.injEq] at h;have:=eS hr;omega)
  rw [if_neg h40] at h
  by_cases h41:bn p a=41
  · rw [if_pos h41] at h
    first
      | exact one h
      | exact gy (q:=fo p a) (f:=fun x=>jn 1 a x 0 0) (fun x k e=>eY e) h
      | (rcases hr:gE p a with _|⟨lo,hi,k⟩
         · rw [hr] at h;cases h
         · rw [hr] at h;simp only [Option.map_some,Option.some.injEq,Prod.mk.injEq] at h;have:=eS hr;omega)
  rw [if_neg h41] at h
  by_cases h94:bn p a=94
  · rw [if_pos h94] at h
    first
      | exact one h
      | exact gy (q:=fo p a) (f:=fun x=>jn 1 a x 0 0) (fun x k e=>eY e) h
      | (rcases hr:gE p a with _|⟨lo,hi,k⟩
         · rw [hr] at h;cases h
         · rw [hr] at h;simp only [Option.map_some,Option.some.injEq,Prod.mk.injEq] at h;have:=eS hr;omega)
  rw [if_neg h94] at h
  by_cases h36:bn p a=36
  · rw [if_pos h36] at h
    first
      | exact one h
      | exact gy (q:=fo p a) (f:=fun x=>jn 1 a x 0 0) (fun x k e=>eY e) h
      | (rcases hr:gE p a with _|⟨lo,hi,k⟩
         · rw [hr] at h;cases h
         · rw [hr] at h;simp only [Option.map_some,Option.some.injEq,Prod.mk.injEq] at h;have:=eS hr;omega)
  rw [if_neg h36] at h
  by_cases h42:bn p a=42
  · rw [if_pos h42] at h
    first
      | exact one h
      | exact gy (q:=fo p a) (f:=fun x=>jn 1 a x 0 0) (fun x k e=>eY e) h
      | (rcases hr:gE p a with _|⟨lo,hi,k⟩
         · rw [hr] at h;cases h
         · rw [hr] at h;simp only [Option.map_some,Option.some.injEq,Prod.mk.injEq] at h;have:=eS hr;omega)
  rw [if_neg h42] at h
  by_cases h43:bn p a=43
  · rw [if_pos h43] at h
    first
      | exact one h
      | exact gy (q:=fo p a) (f:=fun x=>jn 1 a x 0 0) (fun x k e=>eY e) h
      | (rcases hr:gE p a with _|⟨lo,hi,k⟩
         · rw [hr] at h;cases h
         · rw [hr] at h;simp only [Option.map_some,Option.some.injEq,Prod.mk.injEq] at h;have:=eS hr;omega)
  rw [if_neg h43] at h
  by_cases kW:bn p a=63
  · rw [if_pos kW] at h
    first
      | exact one h
      | exact gy (q:=fo p a) (f:=fun x=>jn 1 a x 0 0) (fun x k e=>eY e) h
      | (rcases hr:gE p a with _|⟨lo,hi,k⟩
         · rw [hr] at h;cases h
         · rw [hr] at h;simp only [Option.map_some,Option.some.injEq,Prod.mk.injEq] at h;have:=eS hr;omega)
  rw [if_neg kW] at h
  by_cases h123:bn p a=123
  · rw [if_pos h123] at h
    first
      | exact one h
      | exact gy (q:=fo p a) (f:=fun x=>jn 1 a x 0 0) (fun x k e=>eY e) h
      | (rcases hr:gE p a with _|⟨lo,hi,k⟩
         · rw [hr] at h;cases h
         · rw [hr] at h;simp only [Option.map_some,Option.some.injEq,Prod.mk.injEq] at h;have:=eS hr;omega)
  rw [if_neg h123] at h
  by_cases h46:bn p a=46
  · rw [if_pos h46] at h
    first
      | exact one h
      | exact gy (q:=fo p a) (f:=fun x=>jn 1 a x 0 0) (fun x k e=>eY e) h
      | (rcases hr:gE p a with _|⟨lo,hi,k⟩
         · rw [hr] at h;cases h
         · rw [hr] at h;simp only [Option.map_some,Option.some.injEq,Prod.mk.injEq] at h;have:=eS hr;omega)
  rw [if_neg h46] at h
  by_cases h92:bn p a=92
  · rw [if_pos h92] at h
    first
      | exact one h
      | exact gy (q:=fo p a) (f:=fun x=>jn 1 a x 0 0) (fun x k e=>eY e) h
      | (rcases hr:gE p a with _|⟨lo,hi,k⟩
         · rw [hr] at h;cases h
         · rw [hr] at h;simp only [Option.map_some,Option.some.injEq,Prod.mk.injEq] at h;have:=eS hr;omega)
  rw [if_neg h92] at h
  exact one h
theorem DQ.kC {p:ByteArray} {a n:Nat} {t:Tk} (ha:a<p.size) (h:DQ p a (some (t,n))):a<n∧n≤p.size:=by
  rcases h with ⟨_,q,h1,h2⟩|⟨_,h1⟩
  · exact gy (q:=q) (f:=fun x=>jn 1 a x 0 0) (fun x k e=>by subst e;exact h1.kC) h2
  · exact KZ ha h1
structure Kq where
  out:List Tk
  at_:Int
  er:Int
inductive iP (p:ByteArray):Nat→List Tk→Kq→Prop
  | done {a:Nat} {o:List Tk} :¬a<p.size→iP p a o ⟨o,0,0⟩
  | bad {a:Nat} {o:List Tk} :a<p.size→DQ p a none→iP p a o ⟨[],a,3⟩
  | step {a n:Nat} {o:List Tk} {t:Tk} {r:Kq} :a<p.size→DQ p a (some (t,n))→iP p n (o++[t]) r→iP p a o r
theorem iP.uniq {p:ByteArray} {a:Nat} {o:List Tk} {r r':Kq} (h:iP p a o r) (h':iP p a o r'):r=r':=by
  induction h generalizing r' with
  | done h1=>cases h' with
    | done=>rfl
    | bad h2=>exact absurd h2 h1
    | step h2=>exact absurd h2 h1
  | bad h1 h2=>cases h' with
    | done h3=>exact absurd h1 h3
    | bad=>rfl
    | step _ h3=>have:=h2.uniq h3;cases this
  | step h1 h2 _ ih=>cases h' with
    | done h3=>exact absurd h1 h3
    | bad _ h3=>have:=h2.uniq h3;cases this
    | step _ h3 h4=>have:=h2.uniq h3;cases this;exact ih h4
def eu (p:ByteArray) (r:Kq):Prop:=if p.size>200 then r=⟨[],0,4⟩ else iP p 0 [] r
theorem eu.uniq {p:ByteArray} {r r':Kq} (h:eu p r) (h':eu p r'):r=r':=by
  unfold eu at h h'
  split at h
  · rw [if_pos qI] at h';rw [h,h']
  · rw [if_neg qI] at h';exact h.uniq h'
def Is {α:Type} (r:Option α) (ok:Bool) (P:α→Prop):Prop:=match r with|none=>ok=false|some x=>ok=true∧P x
theorem Is.no {α:Type} {r:Option α} {P:α→Prop} (h:r=none):Is r false P:=by subst h;exact rfl
theorem Is.yes {α:Type} {r:Option α} {P:α→Prop} {x:α} (h:r=some x) (hp:P x):Is r true P:=by subst h;exact ⟨rfl,hp⟩
theorem Is.f {α:Type} {r:Option α} {ok:Bool} {P:α→Prop} (h:Is r ok P) (e:ok≠true):r=none:=by
  cases r with
  | none=>rfl
  | some x=>exact absurd h.1 e
theorem Is.t {α:Type} {r:Option α} {ok:Bool} {P:α→Prop} (h:Is r ok P) (e:ok=true):∃x,r=some x∧P x:=by
  cases r with
  | none=>have h':ok=false:=h;rw [h'] at e;cases e
  | some x=>exact ⟨x,rfl,h.2⟩
theorem Is.mono {α:Type} {r:Option α} {ok:Bool} {P Q:α→Prop} (h:Is r ok P) (hq:∀x,P x→Q x):Is r ok Q:=by
  cases r with
  | none=>exact h
  | some x=>exact ⟨h.1,hq x h.2⟩
theorem Is.map {α β:Type} {r:Option α} {ok:Bool} {P:α→Prop} {Q:β→Prop} {f:α→β} (h:Is r ok P) (hq:∀x,P x→Q (f x)):Is (r.map f) ok Q:=by
  cases r with
  | none=>exact h
  | some x=>exact ⟨h.1,hq x h.2⟩
section
variable {P:Program} {Γ:Env} {w:World} {ty:TypeId} {K:Value→World→Prop} {xt yt:TypeId} {x y:Operand}
theorem ku {a b:Int} (hx:ev Γ x=some (.int .u8 a)) (hy:ev Γ y=some (.int .u8 b)) (h:0≤a-b) (h':a-b≤255) (k:K (.int .u8 (a-b)) w):aq P Γ w (.binOp .sub xt x y yt) ty K:=
  k5 (a-b) hx hy (by show some (IntKind.u8.wrap (a-b))=_;rw [wrap_u8' h h']) k
theorem Wq:∀m:Fin 16,IntKind.u8.wrap (((m.val:Nat):Int)*16)=((m.val*16:Nat):Int):=by decide+kernel
theorem Qp {ky:IntKind} (m:Nat) (hm:m<16) (hx:ev Γ x=some (.int .u8 ((m:Nat):Int))) (hy:ev Γ y=some (.int ky 4)) (k:K (.int .u8 ((m*16:Nat):Int)) w):aq P Γ w (.binOp .shl xt x y yt) ty K:=by
  refine R0 hx hy dk ?_
  have e1:IntKind.u8.wrap (((m:Nat):Int)*2^(min (4:Int).toNat IntKind.u8.bits))=((m*16:Nat):Int):=Wq ⟨m,hm⟩
  rw [e1];exact k
theorem abw:∀m n:Fin 16,IntKind.u8.wrap ((BitVec.ofInt 8 ((m.val*16:Nat):Int)|||BitVec.ofInt 8 ((n.val:Nat):Int)).toNat:Int)=((m.val*16+n.val:Nat):Int):=by decide+kernel
theorem Up (m n:Nat) (hm:m<16) (hn:n<16) (hx:ev Γ x=some (.int .u8 ((m*16:Nat):Int))) (hy:ev Γ y=some (.int .u8 ((n:Nat):Int))) (k:K (.int .u8 ((m*16+n:Nat):Int)) w):aq P Γ w (.binOp .or xt x y yt) ty K:=
  sR ((m*16+n:Nat):Int) hx hy (congrArg some (abw ⟨m,hm⟩ ⟨n,hn⟩)) k
end
theorem jP {n:Nat} (h:n<256):(if IntKind.i64.signed then-(2^(IntKind.i64.bits-1):Int) else 0)≤((n:Nat):Int)∧((n:Nat):Int)≤IntKind.i64.max:=by
  simp [IntKind.signed,IntKind.bits,IntKind.max];omega
theorem ext_toList (s:ByteArray) (a b:Nat):(s.extract a b).data.toList=(s.data.toList.drop a).take (b-a):=by
  rw [ByteArray.data_extract,Array.toList_extract,List.extract_eq_take_drop]
theorem HI (s:ByteArray) (a:Nat):(s.extract a s.size).data.toList=s.data.toList.drop a:=by
  rw [ext_toList,List.take_of_length_le]
  rw [List.length_drop];exact Nat.le_refl _
theorem KT {x:UInt8} {n:Nat} (hn:n<256):(UInt8.ofNat n==x)=decide (x.toNat=n):=by
  rw [Bool.eq_iff_iff,beq_iff_eq,decide_eq_true_eq]
  constructor
  · rintro rfl;rw [UInt8.toNat_ofNat'];exact Nat.mod_eq_of_lt hn
  · rintro rfl;exact UInt8.ofNat_toNat
theorem WZ (l:List UInt8) (b c:Nat) (hb:b<256) (hc:c<256):[UInt8.ofNat b,UInt8.ofNat c].isPrefixOf l=decide (2≤l.length∧(l.getD 0 0).toNat=b∧(l.getD 1 0).toNat=c):=by
  match l with
  | []=>simp
  | [x]=>simp only [List.isPrefixOf,Bool.and_false];simp
  | x::y::l=>
    simp only [List.isPrefixOf,KT hb,KT hc]
    rw [Bool.eq_iff_iff];simp
theorem iK {α:Type} (l:List α) (a i:Nat) (d:α):(l.drop a).getD i d=l.getD (a+i) d:=by
  simp [List.getD_eq_getElem?_getD,List.getElem?_drop]
theorem vd (p:ByteArray):p.data.toList.length=p.size:=rfl
theorem zN (p:ByteArray) (a i:Nat):Lib.occAt (p.data.toList.drop a) [58,93] i=iw p a (a+i):=by
  unfold Lib.occAt iw
  rw [show ([58,93]:List UInt8)=[UInt8.ofNat 58,UInt8.ofNat 93] from rfl,WZ _ 58 93 dk dk]
  rw [decide_eq_decide,iK,iK,iK,iK,List.length_drop,List.length_drop,vd]
  unfold bn
  rw [show a+(i+0)=a+i by omega,show a+(i+1)=a+i+1 by omega]
  constructor
  · rintro ⟨h1,h2,h3⟩;exact ⟨by omega,by omega,h2,h3⟩
  · rintro ⟨h1,h2,h3,h4⟩;exact ⟨by omega,h3,h4⟩
def mU (s:ByteArray):ByteArray:=⟨(Lib.cut s.data.toList [58,93]).1.toArray⟩
def adW (s:ByteArray):ByteArray:=⟨(Lib.cut s.data.toList [58,93]).2.1.toArray⟩
def NI (s:ByteArray):Bool:=(Lib.cut s.data.toList [58,93]).2.2
theorem NH (p:ByteArray) (a:Nat):(NI (p.extract a p.size)=true∧∃i,cutAt p a=some i∧mU (p.extract a p.size)=p.extract a i∧(mU (p.extract a p.size)).size=i-a)∨(NI (p.extract a p.size)=false∧cutAt p a=none):=by
  unfold NI mU
  rw [HI]
  rcases Lib.index_spec (p.data.toList.drop a) [58,93] with ⟨h1,h2⟩|⟨i,h1,h2,h3,h4⟩
  · refine .inr ⟨by unfold Lib.cut;rw [if_neg oz],wH fun k hk OC=>?_⟩
    have:=h2 (k-a) (by rw [List.length_drop,vd];omega)
    rw [zN,show a+(k-a)=k by omega] at this;exact this
  · have hc:iw p a (a+i)=true:=by rw [←zN];exact h3
    have hr:a+i<p.size:=by unfold iw at hc;rw [decide_eq_true_eq] at hc;omega
    have e:(⟨(Lib.cut (p.data.toList.drop a) [58,93]).1.toArray⟩:ByteArray)=p.extract a (a+i):=by
      apply ByteArray.ext;apply Array.ext'
      rw [ext_toList]
      unfold Lib.cut;rw [if_pos oz,h1]
      simp
    refine .inl ⟨by unfold Lib.cut;rw [if_pos oz],a+i,wG hc (fun k hk OC=>?_),e,?_⟩
    · have:=h4 (k-a) oz
      rw [zN,show a+(k-a)=k by omega] at this;exact this
    · rw [e,ByteArray.size_extract,Nat.min_eq_left oz]
theorem J7 (s:ByteArray):(mU s).size≤s.size:=by
  unfold mU
  show (Lib.cut s.data.toList [58,93]).1.toArray.size≤s.size
  unfold Lib.cut
  split
  · simp;exact Nat.min_le_right _ _
  · simp
def hpN (s:ByteArray):Bool:=Lib.hasPrefix s.data.toList [91,58]
theorem yS {p:ByteArray} {a:Nat} (ha:a<p.size):hpN (p.extract a p.size)=named p a:=by
  unfold hpN Lib.hasPrefix named
  rw [HI,show ([91,58]:List UInt8)=[UInt8.ofNat 91,UInt8.ofNat 58] from rfl,WZ _ 91 58 dk dk,decide_eq_decide,iK,iK,List.length_drop,vd]
  unfold bn
  rw [Nat.add_zero]
  constructor
  · rintro ⟨h1,h2,h3⟩;exact ⟨by omega,h2,h3⟩
  · rintro ⟨h1,h2,h3⟩;exact ⟨by omega,h2,h3⟩
def xY (on:Option Int) (x:Bs) (nx:Int) (q:Bs×Nat):Prop:=x=q.1∧nx=((q.2:Nat):Int)∧(∀o,on=some o→o=sv q.1)
def l7 (on:Option Int) (nm:Option Bool) (x:Bs) (nx:Int) (q:Bs×Nat×Bool):Prop:=x=q.1∧nx=((q.2.1:Nat):Int)∧(∀o,on=some o→o=iD q.1 q.2.2)∧(∀o,nm=some o→o=q.2.2)
def A4 (x:Bs) (nx:Int) (q:Bs×Nat):Prop:=x=q.1∧nx=((q.2:Nat):Int)
def A2 (lo hi nx:Int) (q:Int×Int×Nat):Prop:=lo=q.1∧hi=q.2.1∧nx=((q.2.2:Nat):Int)
def ZH (t:Tk) (nx:Int) (q:Tk×Nat):Prop:=t=q.1∧nx=((q.2:Nat):Int)
def fB (p:ByteArray) (a:Nat) (t:Tk) (nx:Int) (ok:Bool):Prop:=∃r,DQ p a r∧Is r ok (ZH t nx)
theorem EP {s:Bs} (h:(bj s).length=1):sv s=(((bj s).getD 0 0:Nat):Int):=if_pos h
theorem AA {s:Bs} {c:Nat} (e:bj s=[c]):s=fZ [c]:=by
  have hc:c<256:=(eN.1 (e▸List.mem_singleton.2 rfl:c∈bj s)).1
  refine Bs.rI fun x hx=>?_
  rw [mO (by intro y hy;simp at hy;omega) hx,Bool.eq_iff_iff,decide_eq_true_eq,List.mem_singleton]
  have:= @eN s x
  rw [e,List.mem_singleton] at this
  rw [this]
  exact ⟨fun h=>⟨hx,h⟩,fun h=>h.2⟩
theorem Jj {s:Bs} (h:(bj s).length=1):fZ [(bj s).getD 0 0]=s:=by
  have e:bj s=[(bj s).getD 0 0]:=by
    match bj s,h with
    | [x],_=>rfl
  exact (AA e).symm
theorem y4 {p:ByteArray} {a:Nat} (h:a+1≥p.size):fo p a=none:=by unfold fo;rw [if_pos h]
theorem De {p:ByteArray} {a:Nat} (hx:bn p (a+1)=120) (h:a+3≥p.size):fo p a=none:=by
  unfold fo
  by_cases h0:a+1≥p.size
  · rw [if_pos h0]
  · rw [if_neg h0,if_pos hx,if_pos h]
theorem wx {p:ByteArray} {a:Nat} (hx:bn p (a+1)=120) (h:¬(dK (bn p (a+2))=true∧dK (bn p (a+3))=true)):fo p a=none:=by
  unfold fo
  by_cases h0:a+1≥p.size
  · rw [if_pos h0]
  · rw [if_neg h0,if_pos hx]
    by_cases h3:a+3≥p.size
    · rw [if_pos h3]
    · rw [if_neg h3,if_neg h]
theorem Dd {p:ByteArray} {a:Nat} (hx:bn p (a+1)=120) (h3:¬a+3≥p.size) (h:dK (bn p (a+2))=true∧dK (bn p (a+3))=true):fo p a=some (fZ [dm (bn p (a+2))*16+dm (bn p (a+3))],a+4):=by
  unfold fo
  rw [if_neg oz,if_pos hx,if_neg h3,if_pos h]
theorem sJ (p:ByteArray) (j:Nat):dm (bn p j)<16:=(ql (cn p j)).2.2.1
theorem HL {p:ByteArray} {a:Nat} {x:Bs} {nx on:Int} (hx:bn p (a+1)=120) (h3:¬a+3≥p.size) (JG:x=fZ [dm (bn p (a+2))*16+dm (bn p (a+3))]) (MK:on=((dm (bn p (a+2))*16+dm (bn p (a+3)):Nat):Int)) (hn:nx=(a:Int)+4):
    Is (fo p a) (dK (bn p (a+2))&&dK (bn p (a+3))) (xY (some on) x nx):=by
  have l1:=sJ p (a+2);have l2:=sJ p (a+3)
  by_cases h:dK (bn p (a+2))=true∧dK (bn p (a+3))=true
  · rw [h.1,h.2]
    refine Is.yes (Dd hx h3 h) ⟨JG,by rw [hn];simp,fun o ho=>?_⟩
    cases ho
    rw [G5 oz,MK]
  · rw [show (dK (bn p (a+2))&&dK (bn p (a+3)))=false by rw [Bool.eq_false_iff];simpa using h]
    exact Is.no (wx hx h)
theorem FM {p:ByteArray} {a:Nat} {x:Bs} {nx:Int} {on:Option Int} (h:¬a+1≥p.size) (hx:bn p (a+1)≠120) (JG:x=(cO (bn p (a+1))).1) (hn:nx=(a:Int)+2) (ho:∀o,on=some o→o=sv (cO (bn p (a+1))).1):
    Is (fo p a) (cO (bn p (a+1))).2 (xY on x nx):=by
  have e:fo p a=if (cO (bn p (a+1))).2=true then some ((cO (bn p (a+1))).1,a+2) else none:=by
    unfold fo;rw [if_neg h,if_neg hx]
  rcases hb:(cO (bn p (a+1))).2 with _|_
  · rw [hb] at e;exact Is.no e
  · rw [hb] at e;exact Is.yes e ⟨JG,by rw [hn];simp,ho⟩
theorem Na {p:ByteArray} {a:Nat} {x:Bs} {nx on:Int} (h:¬a+1≥p.size) (hx:bn p (a+1)≠120) (h1:(bj (cO (bn p (a+1))).1).length=1) (JG:x=fZ [(bj (cO (bn p (a+1))).1).getD 0 0]) (MK:on=(((bj (cO (bn p (a+1))).1).getD 0 0:Nat):Int)) (hn:nx=(a:Int)+2):
    Is (fo p a) (cO (bn p (a+1))).2 (xY (some on) x nx):=
  FM h hx (JG.trans (Jj h1)) hn (fun o ho=>by cases ho;rw [MK,EP h1])
theorem Nb {p:ByteArray} {a:Nat} {x:Bs} {nx on:Int} (h:¬a+1≥p.size) (hx:bn p (a+1)≠120) (h1:(bj (cO (bn p (a+1))).1).length≠1) (JG:x=(cO (bn p (a+1))).1) (MK:on= -1) (hn:nx=(a:Int)+2):
    Is (fo p a) (cO (bn p (a+1))).2 (xY (some on) x nx):=
  FM h hx JG hn (fun o ho=>by cases ho;rw [MK];unfold sv;rw [if_neg h1])
theorem ze {s:Bs} (h:(bj s).length=1):(bj s).getD 0 0<256:=(eN.1 (ak (d:=0) (show 0<(bj s).length by omega))).1
theorem BI {p:ByteArray} {a:Nat} {x:Bs} {nx:Int} {on:Option Int} {ok:Bool} (h:bn p a=92) (he:Is (fo p a) ok (xY on x nx)):Is (dS p a) ok (l7 on (some false) x nx):=by
  unfold dS;rw [if_pos h]
  exact Is.map he (fun q hq=>⟨hq.1,hq.2.1,fun o ho=>by rw [hq.2.2 o ho];rfl,fun o ho=>by cases ho;rfl⟩)
theorem l7.V7 {x:Bs} {nx:Int} {on:Option Int} {nm:Option Bool} {q:Bs×Nat×Bool} (h:l7 on nm x nx q):l7 on none x nx q:=⟨h.1,h.2.1,h.2.2.1,fun o ho=>by cases ho⟩
theorem gH {p:ByteArray} {a:Nat} (h:named p a=true):a+1<p.size∧bn p a=91∧bn p (a+1)=58:=by unfold named at h;simpa using h
theorem BJ {p:ByteArray} {a:Nat} {x:Bs} {nx on:Int} (h:named p a=true) (JG:x=bZ (mU (p.extract (a+2) p.size))) (MK:on= -1) (hn:nx=(a:Int)+(mU (p.extract (a+2) p.size)).size+4):
    Is (dS p a) (NI (p.extract (a+2) p.size)&&fA (mU (p.extract (a+2) p.size))) (l7 (some on) none x nx):=by
  have hr:=gH h
  unfold dS;rw [if_neg oz,if_pos h]
  rcases NH p (a+2) with ⟨h1,i,h2,h3,h4⟩|⟨h1,h2⟩
  · rw [h1,h2,Bool.true_and]
    have hi:=y9 h2
    simp only
    rw [←h3]
    rcases hc:fA (mU (p.extract (a+2) p.size)) with _|_
    · rw [if_neg dk];exact rfl
    · rw [if_pos rfl]
      have e9:nx=((i+2:Nat):Int):=by rw [hn,h4];omega
      exact ⟨rfl,JG,e9,fun o ho=>by cases ho;rw [MK];rfl,fun o ho=>by cases ho⟩
  · rw [h1,h2,Bool.false_and];exact rfl
theorem yl {p:ByteArray} {a:Nat} {x:Bs} {nx:Int} {on:Option Int} (h:bn p a≠92) (h2:¬named p a=true) (JG:x=fZ [bn p a]) (MK:∀o,on=some o→o=(bn p a:Int)) (hn:nx=(a:Int)+1):Is (dS p a) true (l7 on (some false) x nx):=by
  unfold dS;rw [if_neg h,if_neg h2]
  exact ⟨rfl,JG,by rw [hn];simp,fun o ho=>by rw [MK o ho,←G5 (cn p a)];rfl,fun o ho=>by cases ho;rfl⟩
theorem Eo {p:ByteArray} {a i:Nat} {x:Bs} {nx:Int} (h:named p a=true) (hi:cutAt p (a+2)=some i) (JG:x=cJ (dI (p.extract (a+2) i))) (hn:nx=(i:Int)+2):
    Is (dS p a) (isOk (p.extract (a+2) i)) (l7 none (some true) x nx):=by
  have hr:=gH h
  obtain ⟨c1,c2⟩:=NN (p.extract (a+2) i)
  unfold dS;rw [if_neg oz,if_pos h,hi]
  simp only
  rw [←c2]
  rcases hc:fA (p.extract (a+2) i) with _|_
  · rw [if_neg dk];exact rfl
  · rw [if_pos rfl]
    have e9:nx=((i+2:Nat):Int):=by rw [hn];omega
    have e8:x=bZ (p.extract (a+2) i):=by rw [JG,c1]
    refine ⟨rfl,e8,e9,?_,?_⟩
    · intro o ho;cases ho
    · intro o ho;cases ho;rfl
theorem IT {p:ByteArray} {a:Nat} (h:named p a=true) (hi:cutAt p (a+2)=none):dS p a=none:=by
  have hr:=gH h
  unfold dS;rw [if_neg oz,if_pos h,hi]
theorem GZ {p:ByteArray} {a:Nat} (h:dS p a=none):iY p a=none:=by unfold iY;rw [h]
theorem j0 {p:ByteArray} {a:Nat} {x:Bs} {on nx:Int} {nm:Option Bool} {ok:Bool} (h:Is (dS p a) ok (l7 (some on) nm x nx)) (hr:ok=true→¬(0≤on∧nx+1<p.size∧bn p nx.toNat=45∧bn p (nx+1).toNat≠93)):Is (iY p a) ok (A4 x nx):=by
  rcases e:dS p a with _|⟨s,n,m⟩
  · rw [e] at h;rw [show iY p a=none from GZ e];exact h
  · rw [e] at h
    obtain ⟨h1,h2,h3,h4,h5⟩:=h
    have e2:iY p a=some (s,n):=by
      unfold iY;rw [e];simp only
      rw [if_neg]
      intro h9
      unfold uz at h9;rw [decide_eq_true_eq] at h9
      have h6:=h4 on rfl
      simp only at h6 h3
      refine hr h1 ⟨by omega,by omega,?_,?_⟩
      · rw [show nx.toNat=n by omega];exact h9.2.2.1
      · rw [show (nx+1).toNat=n+1 by omega];exact h9.2.2.2
    rw [e2];exact ⟨h1,h2,h3⟩
theorem qU {p:ByteArray} {a:Nat} {x y:Bs} {on nx om ny:Int} {nm Kz:Option Bool} (h:Is (dS p a) true (l7 (some on) nm x nx)) (hr:0≤on∧nx+1<p.size∧bn p nx.toNat=45∧bn p (nx+1).toNat≠93) {ok:Bool} (h2:Is (dS p (nx+1).toNat) ok (l7 (some om) Kz y ny)):
    iY p a=if ok=true then if om<on then none else some (bG on.toNat om.toNat,ny.toNat) else none:=by
  obtain ⟨⟨s,n,m⟩,e,q1,q2,q3,q4⟩:=h.t rfl
  have o1:=q3 on rfl
  simp only at o1 q2
  have en:(nx+1).toNat=n+1:=by omega
  rw [en] at h2 hr
  unfold iY;rw [e];simp only
  rw [if_pos (by unfold uz;rw [decide_eq_true_eq];exact ⟨by omega,by omega,by rw [show n=nx.toNat by omega];exact hr.2.2.1,hr.2.2.2⟩)]
  rcases e2:dS p (n+1) with _|⟨s2,n2,m2⟩
  · rw [e2] at h2;have uH:ok=false:=h2
    rw [uH,if_neg dk]
  · rw [e2] at h2
    obtain ⟨r1,r2,r3,r4,r5⟩:=h2
    have o2:=r4 om rfl
    simp only at o2 r3
    rw [r1,if_pos rfl];simp only
    rw [←o1,←o2]
    by_cases cF:om<on
    · rw [if_pos cF,if_pos cF]
    · rw [if_neg cF,if_neg cF,show ny.toNat=n2 by omega]
theorem Is.Xa {p:ByteArray} {a:Nat} {x:Bs} {nx:Int} {ok:Bool} {q:Option (Bs×Nat)} (h:uo p (fp p a) Bs.zero q) (e:Is q ok (fun y=>x=wW (nB p a) y.1∧nx=((y.2:Nat):Int))):∃r,s9 p a r∧Is r ok (A4 x nx):=
  ⟨_,⟨q,h,rfl⟩,Is.map e (fun y hy=>hy)⟩
theorem QL {p:ByteArray} {i:Nat} {r:Bs} {ok:Bool} (h:i<p.size→bn p i=93) (bB:ok=true↔i<p.size):∃q,uo p i r q∧Is q ok (fun y=>y=(r,i+1)):=by
  by_cases hi:i<p.size
  · exact ⟨_,.stop hi (h hi),bB.2 hi,rfl⟩
  · exact ⟨_,.over hi,Bool.eq_false_iff.2 fun e=>hi (bB.1 e)⟩
theorem uN {p:ByteArray} {a i:Nat} {r x:Bs} {nx:Int} {ok:Bool} (hI:∀q,uo p i r q→uo p (fp p a) Bs.zero q) (h:i<p.size→bn p i=93) (bB:ok=true↔i<p.size) (hx:x=wW (nB p a) r) (hn:nx=(i:Int)+1):∃r,s9 p a r∧Is r ok (A4 x nx):=by
  obtain ⟨q,h1,h2⟩:=QL h bB
  exact Is.Xa (hI q h1) (h2.mono fun y hy=>by rw [hy];exact ⟨hx,by rw [hn];rfl⟩)
theorem uO {p:ByteArray} {a i:Nat} {r x:Bs} {nx:Int} (hI:∀q,uo p i r q→uo p (fp p a) Bs.zero q) (h:i<p.size) (h2:bn p i≠93) (hp:iY p i=none):∃r,s9 p a r∧Is r false (A4 x nx):=
  ⟨_,⟨_,hI _ (.bad h h2 hp),rfl⟩,rfl⟩
theorem N4 {p:ByteArray} {a i:Nat} {r x:Bs} {nx:Int} (hI:∀q,uo p i r q→uo p (fp p a) Bs.zero q) (h:¬i<p.size):∃r,s9 p a r∧Is r false (A4 x nx):=
  ⟨_,⟨_,hI _ (.over h),rfl⟩,rfl⟩
theorem zg {p:ByteArray} {a:Nat} (h:a<p.size):a<fp p a∧fp p a≤p.size:=by
  unfold fp
  by_cases hb:nB p a=true
  · rw [if_pos hb];unfold nB at hb;rw [decide_eq_true_eq] at hb;omega
  · rw [if_neg hb];omega
theorem uJ {p:ByteArray} {j:Nat} (h:uK p j=true):j<p.size∧48≤bn p j∧bn p j≤57:=by unfold uK at h;simpa using h
theorem My {p:ByteArray} {a k:Nat} {q:Bool} (hk:k≤kD p a) (hq:q=(decide (k<3)&&uK p (a+k))) (h:¬q=true):k=kD p a:=by
  refine S8 hk ?_
  rw [hq,Bool.and_eq_true,decide_eq_true_eq] at h
  have:=yN p a
  rcases hd:uK p (a+k) with _|_
  · exact .inr rfl
  · exact .inl (by have h3:¬k<3:=fun h3=>h ⟨h3,hd⟩;omega)
theorem RA {p:ByteArray} {a k:Nat} {q:Bool} (hk:k≤kD p a) (hq:q=(decide (k<3)&&uK p (a+k))) (h:q=true):k+1≤kD p a∧k<3∧a+k<p.size∧48≤bn p (a+k)∧bn p (a+k)≤57:=by
  rw [hq,Bool.and_eq_true,decide_eq_true_eq] at h
  exact ⟨PB hk h.1 h.2,h.1,uJ h.2⟩
theorem iz {p:ByteArray} {a k:Nat} (hk:k≤kD p a):dH p a k≤999:=by
  have h:=Gt p a k (fun j hj=>sD oz)
  have h3:=yN p a
  have:10^k≤10^3:=Nat.pow_le_pow_right dk oz
  omega
theorem CI {p:ByteArray} {a:Nat} (h:a≤p.size):a+kD p a≤p.size:=by
  rcases Nat.eq_zero_or_pos (kD p a) with e|e
  · omega
  · have:=(uJ (sD (p:=p) (a:=a) (k:=kD p a-1) oz)).1;omega
theorem Nh {c:Nat} (h:48≤c∧c≤57):dJ c=(c:Int)-48:=if_pos h
theorem vn {p:ByteArray} {a:Nat} (h:¬b8 p (a+1)=true∨a+1+kD p (a+1)≥p.size):gE p a=none:=by
  unfold gE;simp only;rw [if_pos h]
theorem nV {p:ByteArray} {a:Nat} {lo hi nx:Int} {ok:Bool} (hn:b8 p (a+1)=true) (uG:a+1+kD p (a+1)<p.size) (h44:bn p (a+1+kD p (a+1))≠44) (bB:ok=true↔bn p (a+1+kD p (a+1))=125)
    (e1:lo=(dH p (a+1) (kD p (a+1)):Nat)) (e2:hi=(dH p (a+1) (kD p (a+1)):Nat)) (e3:nx=((a+1+kD p (a+1):Nat):Int)+1):Is (gE p a) ok (A2 lo hi nx):=by
  unfold gE;simp only
  rw [if_neg (by rw [hn];simp;omega)]
  by_cases h:bn p (a+1+kD p (a+1))=125
  · rw [if_pos h];exact ⟨bB.2 h,e1,e2,e3⟩
  · rw [if_neg h,if_pos (.inl h44)];exact Bool.eq_false_iff.2 fun e=>h (bB.1 e)
theorem nU {p:ByteArray} {a:Nat} {lo hi nx:Int} {ok:Bool} (hn:b8 p (a+1)=true) (uG:a+1+kD p (a+1)<p.size) (h44:bn p (a+1+kD p (a+1))=44)
    (vZ:¬(a+1+kD p (a+1)+1<p.size∧bn p (a+1+kD p (a+1)+1)≠125)) (bB:ok=true↔a+1+kD p (a+1)+1<p.size∧bn p (a+1+kD p (a+1)+1)=125)
    (e1:lo=(dH p (a+1) (kD p (a+1)):Nat)) (e2:hi= -1) (e3:nx=((a+1+kD p (a+1):Nat):Int)+1+1):Is (gE p a) ok (A2 lo hi nx):=by
  unfold gE;simp only
  rw [if_neg (by rw [hn];simp;omega),if_neg oz]
  by_cases h:a+1+kD p (a+1)+1<p.size
  · have h1:bn p (a+1+kD p (a+1)+1)=125:=Classical.byContradiction fun h1=>vZ ⟨h,h1⟩
    rw [if_neg oz,if_pos h1];exact ⟨bB.2 ⟨h,h1⟩,e1,e2,by rw [e3];simp;omega⟩
  · rw [if_pos oz];exact Bool.eq_false_iff.2 fun e=>h (bB.1 e).1
theorem vo {p:ByteArray} {a:Nat} (h44:bn p (a+1+kD p (a+1))=44) (h:¬b8 p (a+1+kD p (a+1)+1)=true∨dH p (a+1+kD p (a+1)+1) (kD p (a+1+kD p (a+1)+1))<dH p (a+1) (kD p (a+1))) (h2:bn p (a+1+kD p (a+1)+1)≠125):gE p a=none:=by
  have hv:jr p (a+1+kD p (a+1)+1)<((dH p (a+1) (kD p (a+1)):Nat):Int):=by
    unfold jr
    by_cases hn:b8 p (a+1+kD p (a+1)+1)=true
    · rw [if_pos hn]
      rcases h with h|h
      · exact absurd hn h
      · omega
    · rw [if_neg hn];omega
  by_cases h1:¬b8 p (a+1)=true∨a+1+kD p (a+1)≥p.size
  · exact vn h1
  · by_cases h3:a+1+kD p (a+1)+1≥p.size
    · unfold gE;simp only
      rw [if_neg h1,if_neg oz,if_pos (.inr h3)]
    · unfold gE;simp only
      rw [if_neg h1,if_neg oz,if_neg oz,if_neg h2,if_pos (.inl hv)]
theorem nn {p:ByteArray} {a:Nat} {lo hi nx:Int} {ok:Bool} (hn:b8 p (a+1)=true) (uG:a+1+kD p (a+1)+1<p.size) (h44:bn p (a+1+kD p (a+1))=44) (h2:bn p (a+1+kD p (a+1)+1)≠125)
    (hn2:b8 p (a+1+kD p (a+1)+1)=true) (hv:¬dH p (a+1+kD p (a+1)+1) (kD p (a+1+kD p (a+1)+1))<dH p (a+1) (kD p (a+1)))
    (bB:ok=true↔a+1+kD p (a+1)+1+kD p (a+1+kD p (a+1)+1)<p.size∧bn p (a+1+kD p (a+1)+1+kD p (a+1+kD p (a+1)+1))=125)
    (e1:lo=(dH p (a+1) (kD p (a+1)):Nat)) (e2:hi=(dH p (a+1+kD p (a+1)+1) (kD p (a+1+kD p (a+1)+1)):Nat)) (e3:nx=((a+1+kD p (a+1)+1+kD p (a+1+kD p (a+1)+1):Nat):Int)+1):Is (gE p a) ok (A2 lo hi nx):=by
  have e9:jr p (a+1+kD p (a+1)+1)=(dH p (a+1+kD p (a+1)+1) (kD p (a+1+kD p (a+1)+1)):Nat):=if_pos hn2
  unfold gE;simp only
  rw [if_neg (by rw [hn];simp;omega),if_neg oz,if_neg oz,if_neg h2,e9]
  by_cases h:a+1+kD p (a+1)+1+kD p (a+1+kD p (a+1)+1)<p.size∧bn p (a+1+kD p (a+1)+1+kD p (a+1+kD p (a+1)+1))=125
  · rw [if_neg oz];exact ⟨bB.2 h,e1,e2,e3⟩
  · rw [if_pos oz];exact Bool.eq_false_iff.2 fun e=>h (bB.1 e)
theorem GB {p:ByteArray} {a:Nat} {t:Tk} {lo hi nx:Int} {ok:Bool} (h:bn p a=123) (hr:Is (gE p a) ok (A2 lo hi nx)) (ht:t=⟨5,a,Bs.zero,lo,hi⟩):fB p a t nx ok:=by
  refine ⟨_,.inr ⟨by omega,rfl⟩,?_⟩
  unfold iB
  repeat (first|rw [if_pos oz]|rw [if_neg oz])
  exact Is.map hr (fun x hx=>⟨by rw [ht,hx.1,hx.2.1];rfl,hx.2.2⟩)
theorem mu {p:ByteArray} {a:Nat} {t:Tk} {x:Bs} {nx:Int} {ok:Bool} (h:bn p a=91) (hr:∃r,s9 p a r∧Is r ok (A4 x nx)) (ht:t=⟨1,a,x,0,0⟩):fB p a t nx ok:=by
  obtain ⟨r,h1,h2⟩:=hr
  exact ⟨_,.inl ⟨h,r,h1,rfl⟩,Is.map h2 (fun q hq=>⟨by rw [ht,hq.1];rfl,hq.2⟩)⟩
theorem mi {p:ByteArray} {a:Nat} {t:Tk} {x:Bs} {nx:Int} {on:Option Int} {ok:Bool} (h:bn p a=92) (hr:Is (fo p a) ok (xY on x nx)) (ht:t=⟨1,a,x,0,0⟩):fB p a t nx ok:=by
  refine ⟨_,.inr ⟨by omega,rfl⟩,?_⟩
  unfold iB
  repeat (first|rw [if_pos oz]|rw [if_neg oz])
  exact Is.map hr (fun q hq=>⟨by rw [ht,hq.1];rfl,hq.2.1⟩)
theorem dh {p:ByteArray} {a:Nat} {t:Tk} {nx:Int} {ok:Bool} (h:bn p a≠91) (hr:Is (iB p a) ok (ZH t nx)):fB p a t nx ok:=⟨_,.inr ⟨h,rfl⟩,hr⟩
theorem Bx {p:ByteArray} {aI:Int} {o:List Tk} {t:Tk} {nx:Int} (h0:0≤aI) (hl:aI<p.size) (hs:p.size≤200) (hI:∀r,iP p aI.toNat o r→iP p 0 [] r) (ht:fB p aI.toNat t nx false):eu p ⟨[],aI,3⟩:=by
  obtain ⟨r,h1,h2⟩:=ht
  have e:=h2.f dk;subst e
  unfold eu;rw [if_neg oz]
  have:=hI _ (.bad oz h1)
  rw [show ((aI.toNat:Nat):Int)=aI by omega] at this;exact this
theorem yd {p:ByteArray} {aI:Int} {o:List Tk} (hl:¬aI<p.size) (hs:p.size≤200) (hI:∀r,iP p aI.toNat o r→iP p 0 [] r):eu p ⟨o,0,0⟩:=by
  unfold eu;rw [if_neg oz]
  exact hI _ (.done oz)
theorem yb {p:ByteArray} (hs:p.size>200):eu p ⟨[],0,4⟩:=by unfold eu;rw [if_pos hs]
theorem x9 {p:ByteArray} {aI nx:Int} {o:List Tk} {t:Tk} (h0:0≤aI) (hl:aI<p.size) (hI:∀r,iP p aI.toNat o r→iP p 0 [] r) (ht:fB p aI.toNat t nx true):
    (∀r,iP p nx.toNat (o++[t]) r→iP p 0 [] r)∧aI<nx∧nx≤p.size:=by
  obtain ⟨r,h1,h2⟩:=ht
  obtain ⟨⟨t2,n⟩,rfl,h3,h4⟩:=h2.t rfl
  simp only at h3 h4
  subst h3
  have hr:=h1.kC oz
  refine ⟨fun r lu=>hI r (.step oz h1 ?_),by omega,by omega⟩
  rw [show n=nx.toNat by omega];exact lu
theorem Is.zero {α:Type} {r:Option α} {P:α→Prop} (h:r=none):Is r (decide ((0:Int)≠0)) P:=Is.no h
theorem Is.pos {α:Type} {r:Option α} {P:α→Prop} {nx:Int} (h:0<nx) (hr:Is r true P):Is r (decide (nx≠0)) P:=by
  rw [decide_eq_true oz];exact hr
theorem zF {p:ByteArray} {a:Nat} (hx:bn p (a+1)=120) (h:a+3≥p.size∨dJ (bn p (a+2))<0∨dJ (bn p (a+3))<0):fo p a=none:=by
  rcases h with h|h|h
  · exact De hx h
  · exact wx hx fun h9=>by have h8:=h9.1;rw [(ql (cn p (a+2))).1,decide_eq_true_eq] at h8;omega
  · exact wx hx fun h9=>by have h8:=h9.2;rw [(ql (cn p (a+3))).1,decide_eq_true_eq] at h8;omega
theorem Lu {p:ByteArray} {a:Nat} {nx:Int} (hx:bn p (a+1)=120) (h3:¬a+3≥p.size) (h:0≤dJ (bn p (a+2))) (h':0≤dJ (bn p (a+3))) (hn:nx=(a:Int)+4):
    Is (fo p a) true (xY none (bG (dJ (bn p (a+2))*16+dJ (bn p (a+3))).toNat (dJ (bn p (a+2))*16+dJ (bn p (a+3))).toNat) nx):=by
  obtain ⟨e1,e2,e3,_⟩:=ql (cn p (a+2));obtain ⟨f1,f2,f3,_⟩:=ql (cn p (a+3))
  have e2:=e2 h;have f2:=f2 h'
  refine Is.yes (Dd hx h3 ⟨by rw [e1,decide_eq_true_eq];exact h,by rw [f1,decide_eq_true_eq];exact h'⟩) ⟨?_,by rw [hn];rfl,fun o ho=>by cases ho⟩
  rw [show (dJ (bn p (a+2))*16+dJ (bn p (a+3))).toNat=dm (bn p (a+2))*16+dm (bn p (a+3)) by omega,range_one oz]
theorem O8 {p:ByteArray} {a:Nat} {nx:Int} (h:¬a+1≥p.size) (hx:bn p (a+1)≠120) (hn:nx=(a:Int)+2):Is (fo p a) (decide (cJ (ju (bn p (a+1)))≠Bs.zero)) (xY none (cJ (ju (bn p (a+1)))) nx):=by
  obtain ⟨e1,e2⟩:=Ue (cn p (a+1))
  rw [←e2]
  exact FM h hx e1.symm hn (fun o ho=>by cases ho)
theorem l7.up {nm:Bool} {x:Bs} {nx:Int} {q:Bs×Nat×Bool} (h:l7 none (some nm) x nx q):l7 (some (iD x nm)) (some nm) x nx q:=
  ⟨h.1,h.2.1,fun o ho=>by cases ho;rw [h.1,h.2.2.2 nm rfl],h.2.2.2⟩
theorem kg {p:ByteArray} {a:Nat} {x:Bs} {nx:Int} {nm:Bool} (h:Is (dS p a) true (l7 none (some nm) x nx)) (hr:¬(0≤iD x nm∧nx+1<p.size∧bn p nx.toNat=45∧bn p (nx+1).toNat≠93)):iY p a=some (x,nx.toNat):=by
  obtain ⟨q,h1,h2,h3⟩:=(j0 (h.mono fun q hq=>hq.up) (fun _=>hr)).t rfl
  rw [h1]
  obtain ⟨q1,q2⟩:=q
  simp only at h2 h3
  rw [h2,h3];rfl
theorem Cc (s:Bs) (nm:Bool): -1≤iD s nm∧iD s nm<256:=by
  unfold iD
  by_cases h:nm=true
  · rw [if_pos h];omega
  · rw [if_neg h];exact LS s
theorem sh {p:ByteArray} {a:Nat} {x y:Bs} {nx ny:Int} {nm Kz ok:Bool} (h:Is (dS p a) true (l7 none (some nm) x nx)) (hr:0≤iD x nm∧nx+1<p.size∧bn p nx.toNat=45∧bn p (nx+1).toNat≠93) (h2:Is (dS p (nx+1).toNat) ok (l7 none (some Kz) y ny)):
    iY p a=if ok=true then if iD y Kz<iD x nm then none else some (bG (iD x nm).toNat (iD y Kz).toNat,ny.toNat) else none:=
  qU (h.mono fun q hq=>hq.up) hr (h2.mono fun q hq=>hq.up)
theorem G8 {p:ByteArray} {a:Nat} (h:jr p a<0):¬b8 p a=true:=fun h9=>by unfold jr at h;rw [if_pos h9] at h;omega
theorem od {p:ByteArray} {a:Nat} (h:¬jr p a<0):b8 p a=true∧jr p a=((dH p a (kD p a):Nat):Int):=by
  by_cases h9:b8 p a=true
  · exact ⟨h9,if_pos h9⟩
  · exfalso;apply h;unfold jr;rw [if_neg h9];omega
theorem zT {p:ByteArray} {a v:Nat} (h:jr p a<((v:Nat):Int)):¬b8 p a=true∨dH p a (kD p a)<v:=by
  by_cases h9:b8 p a=true
  · right;unfold jr at h;rw [if_pos h9] at h;omega
  · exact .inl h9
theorem Ct (p:ByteArray) (a:Nat): -1≤jr p a∧jr p a≤999:=by
  have:=iz (p:=p) (Nat.le_refl (kD p a))
  unfold jr
  by_cases h9:b8 p a=true
  · rw [if_pos h9];omega
  · rw [if_neg h9];omega
def lD (p:ByteArray) (a:Nat) (t:Tk) (nx:Int):Prop:=fB p a t nx (decide (nx≠0))
theorem fB.zero {p:ByteArray} {a:Nat} {t t':Tk} {nx:Int} (h:fB p a t nx false):lD p a t' 0:=by
  obtain ⟨r,h1,h2⟩:=h
  exact ⟨r,h1,Is.zero (h2.f dk)⟩
theorem fB.pos {p:ByteArray} {a:Nat} {t:Tk} {nx:Int} (ha:a<p.size) (h:fB p a t nx true):lD p a t nx:=by
  obtain ⟨r,h1,h2⟩:=h
  obtain ⟨⟨t2,n⟩,rfl,h3,h4⟩:=h2.t rfl
  have:=h1.kC ha
  simp only at h4
  exact ⟨_,h1,Is.pos oz h2⟩
theorem lD.of {p:ByteArray} {a:Nat} {t:Tk} {nx:Int} {ok:Bool} (ha:a<p.size) (h:fB p a t nx ok) (hk:ok=true):lD p a t nx:=fB.pos ha (hk▸h)
theorem yo:∀j:Fin 5,bn ⟨#[124,40,41,94,36]⟩ j.val=[124,40,41,94,36].getD j.val 0:=by decide+kernel
theorem Lk {p:ByteArray} {a k:Nat} (hk:k<5) (ha:a<p.size) (h:bn ⟨#[124,40,41,94,36]⟩ k=bn p a) {nx:Int} (hn:nx=(a:Int)+1):lD p a ⟨([2,3,4,6,7]:List Int).getD k 0,a,Bs.zero,0,0⟩ nx:=by
  rw [yo ⟨k,hk⟩] at h
  subst hn
  refine fB.pos ha ?_
  match k,hk,h with
  | 0,_,h=>exact dh (by simp at h;omega) (by unfold iB;(repeat (first|rw [if_pos (by simp at h;omega)]|rw [if_neg (by simp at h;omega)]));exact ⟨rfl,rfl,rfl⟩)
  | 1,_,h=>exact dh (by simp at h;omega) (by unfold iB;(repeat (first|rw [if_pos (by simp at h;omega)]|rw [if_neg (by simp at h;omega)]));exact ⟨rfl,rfl,rfl⟩)
  | 2,_,h=>exact dh (by simp at h;omega) (by unfold iB;(repeat (first|rw [if_pos (by simp at h;omega)]|rw [if_neg (by simp at h;omega)]));exact ⟨rfl,rfl,rfl⟩)
  | 3,_,h=>exact dh (by simp at h;omega) (by unfold iB;(repeat (first|rw [if_pos (by simp at h;omega)]|rw [if_neg (by simp at h;omega)]));exact ⟨rfl,rfl,rfl⟩)
  | 4,_,h=>exact dh (by simp at h;omega) (by unfold iB;(repeat (first|rw [if_pos (by simp at h;omega)]|rw [if_neg (by simp at h;omega)]));exact ⟨rfl,rfl,rfl⟩)
theorem Ll {p:ByteArray} {a:Nat} (h:∀j,j<5→bn ⟨#[124,40,41,94,36]⟩ j≠bn p a):bn p a≠124∧bn p a≠40∧bn p a≠41∧bn p a≠94∧bn p a≠36:=by
  have h':∀j:Fin 5,[124,40,41,94,36].getD j.val 0≠bn p a:=fun j=>by rw [←yo j];exact h j.val j.isLt
  exact ⟨fun e=>h' 0 (by rw [e];decide),fun e=>h' 1 (by rw [e];decide),fun e=>h' 2 (by rw [e];decide),fun e=>h' 3 (by rw [e];decide),fun e=>h' 4 (by rw [e];decide)⟩
theorem SK {p:ByteArray} {a:Nat} {lo hi nx:Int} {P:Prop} (h:Is (gE p a) true (A2 lo hi nx)):0<nx:=by
  obtain ⟨⟨l,h2,n⟩,h1,_,_,h4⟩:=h.t rfl
  have:=eS h1
  simp only at h4;omega
theorem zI {p:ByteArray} {a:Nat} {lo hi nx:Int} (h:Is (gE p a) true (A2 lo hi nx)):Is (gE p a) (decide (nx≠0)) (A2 lo hi nx):=Is.pos (SK (P:=True) h) h
theorem IZ {p:ByteArray} {aI:Int} {o:List Tk} {t:Tk} {nx:Int} (h0:0≤aI) (hl:aI<p.size) (hs:p.size≤200) (hI:∀r,iP p aI.toNat o r→iP p 0 [] r) (ht:lD p aI.toNat t nx) (hn:nx=0):eu p ⟨[],aI,3⟩:=by
  unfold lD at ht;rw [decide_eq_false oz] at ht
  exact Bx h0 hl hs hI ht
theorem Ev {p:ByteArray} {aI nx:Int} {o:List Tk} {t:Tk} (h0:0≤aI) (hl:aI<p.size) (hI:∀r,iP p aI.toNat o r→iP p 0 [] r) (ht:lD p aI.toNat t nx) (hn:nx≠0):
    (∀r,iP p nx.toNat (o++[t]) r→iP p 0 [] r)∧aI<nx∧nx≤p.size:=by
  unfold lD at ht;rw [decide_eq_true hn] at ht
  exact x9 h0 hl hI ht
theorem qS {p:ByteArray} {a:Nat} {nx:Int} (ha:a<p.size) (h:bn p a=46) (hn:nx=(a:Int)+1):lD p a ⟨1,a,fF (bG 10 10),0,0⟩ nx:=by
  subst hn
  refine fB.pos ha (dh oz ?_)
  unfold iB
  (repeat (first|rw [if_pos oz]|rw [if_neg oz]))
  rw [range_one dk]
  exact ⟨rfl,rfl,rfl⟩
theorem oS {p:ByteArray} {a:Nat} {nx:Int} (ha:a<p.size) (hs:bn p a≠124∧bn p a≠40∧bn p a≠41∧bn p a≠94∧bn p a≠36) (h1:bn p a≠42) (h2:bn p a≠43) (h3:bn p a≠63) (h4:bn p a≠123) (h5:bn p a≠91) (h6:bn p a≠92) (h7:bn p a≠46) (hn:nx=(a:Int)+1):lD p a ⟨1,a,bG (bn p a) (bn p a),0,0⟩ nx:=by
  subst hn
  refine fB.pos ha (dh oz ?_)
  unfold iB
  (repeat (first|rw [if_pos oz]|rw [if_neg oz]))
  rw [range_one (cn p a)]
  exact ⟨rfl,rfl,rfl⟩
def l9 (p:ByteArray) (o:List Nd) (at_ er:Int):Prop:=∃l a e,eu p ⟨l,a,e⟩∧((e≠0∧o=[]∧at_=a∧er=e)∨(e=0∧DT l p.size o at_ er))
theorem l9.uniq {p:ByteArray} {o o':List Nd} {a a' e e':Int} (h:l9 p o a e) (h':l9 p o' a' e'):o=o'∧a=a'∧e=e':=by
  obtain ⟨l,x,y,h1,h2⟩:=h
  obtain ⟨l',x',y',uI,uH⟩:=h'
  have:=h1.uniq uI;simp only [Kq.mk.injEq] at this
  obtain ⟨rfl,rfl,rfl⟩:=this
  rcases h2 with ⟨q1,q2,q3,q4⟩|⟨q1,q2⟩<;>rcases uH with ⟨r1,r2,r3,r4⟩|⟨r1,r2⟩
  · exact ⟨q2.trans r2.symm,q3.trans r3.symm,q4.trans r4.symm⟩
  · exact absurd r1 q1
  · exact absurd q1 r1
  · exact q2.uniq r2
theorem DT.len {l:List Tk} {e:Int} {o:List Nd} {a r:Int} (h:DT l e o a r):o.length≤512∧(r≠0→o=[]):=by
  unfold DT at h
  rcases h with ⟨k,_,_,hk,rfl,_,hr⟩|⟨_,h⟩
  · exact ⟨Nat.zero_le _,fun _=>rfl⟩
  · rcases h with ⟨_,rfl,_,_⟩|⟨_,h⟩
    · exact ⟨Nat.zero_le _,fun _=>rfl⟩
    · rcases h with ⟨_,rfl,_,_⟩|⟨h1,rfl,_,hr⟩
      · exact ⟨Nat.zero_le _,fun _=>rfl⟩
      · exact ⟨by omega,fun h9=>absurd hr h9⟩
theorem l9.len {p:ByteArray} {o:List Nd} {a e:Int} (h:l9 p o a e):o.length≤512∧(e≠0→o=[]):=by
  obtain ⟨l,x,y,h1,h2⟩:=h
  rcases h2 with ⟨q1,rfl,q3,q4⟩|⟨q1,q2⟩
  · exact ⟨Nat.zero_le _,fun _=>rfl⟩
  · exact q2.len
theorem lP {l:List Nd} {i:Nat} {T:Tr} (h:Sub l i T) (hk:(l.getD i cQ).kind=5∨(l.getD i cQ).kind=6):∃n a b,T= .bin n a b∧n=l.getD i cQ∧(bQ T i).length=2∧0≤(bQ T i).getD 0 0∧(bQ T i).getD 0 0<(i:Int)∧0≤(bQ T i).getD 1 0∧(bQ T i).getD 1 0<(i:Int)∧Sub l ((bQ T i).getD 0 0).toNat a∧Sub l ((bQ T i).getD 1 0).toNat b:=by
  rw [h.root.1] at hk
  cases T with
  | leaf n=>have:=h.1;simp only [Tr.wk,Tr.root] at this hk;omega
  | rep n a=>have:=h.1.1;simp only [Tr.root] at hk;omega
  | bin n a b=>
    have hs:=h.bin
    have e0:(bQ (.bin n a b) i).getD 0 0=(i:Int)-1-b.flat.length:=rfl
    have e1:(bQ (.bin n a b) i).getD 1 0=(i:Int)-1:=rfl
    refine ⟨n,a,b,rfl,h.root.1.symm,rfl,by omega,by have:=dV b;omega,by omega,by omega,?_,?_⟩
    · rw [e0,show ((i:Int)-1-b.flat.length).toNat=i-1-b.flat.length by omega];exact hs.2.2.2
    · rw [e1,show ((i:Int)-1).toNat=i-1 by omega];exact hs.2.1
theorem vQ {l:List Nd} {i:Nat} {T:Tr} (h:Sub l i T) (hk:(l.getD i cQ).kind=7):∃n a,T= .rep n a∧n=l.getD i cQ∧(bQ T i).length=1∧0≤(bQ T i).getD 0 0∧(bQ T i).getD 0 0<(i:Int)∧Sub l ((bQ T i).getD 0 0).toNat a:=by
  rw [h.root.1] at hk
  cases T with
  | leaf n=>have:=h.1;simp only [Tr.wk,Tr.root] at this hk;omega
  | rep n a=>
    have hs:=h.rep
    have e0:(bQ (.rep n a) i).getD 0 0=(i:Int)-1:=rfl
    refine ⟨n,a,rfl,h.root.1.symm,rfl,by omega,by omega,?_⟩
    rw [e0,show ((i:Int)-1).toNat=i-1 by omega];exact hs.2.1
  | bin n a b=>have:=h.1.1;simp only [Tr.root] at hk;omega
theorem eD {l:List Nd} {i:Nat} {T:Tr} (h:Sub l i T) (hk:¬(l.getD i cQ).kind=5∧¬(l.getD i cQ).kind=6∧¬(l.getD i cQ).kind=7):∃n,T= .leaf n∧n=l.getD i cQ:=by
  rw [h.root.1] at hk
  cases T with
  | leaf n=>exact ⟨n,rfl,h.root.1.symm⟩
  | rep n a=>have:=h.1.1;simp only [Tr.root] at hk;omega
  | bin n a b=>have:=h.1.1;simp only [Tr.root] at hk;omega
def Ek (l:List Int):Int:=l.foldl (· + ·) 0
theorem IJ (l:List Int) (x:Int):Ek (l++[x])=Ek l+x:=by simp [Ek]
def Le (T:Tr):Int:=Ek (T.kids.map aU)
theorem lJ {T:Tr} (h:T.wk) (hk:T.root.kind=5):min (2+Le T-2) 1048576=aU T:=by
  cases T with
  | leaf n=>simp only [Tr.wk,Tr.root] at h hk;omega
  | rep n a=>have:=h.1;simp only [Tr.root] at hk;omega
  | bin n a b=>
    simp only [Tr.root] at hk
    simp only [aU,rN,Le,Ek,Tr.kids,List.map_cons,List.map_nil,List.foldl_cons,List.foldl_nil]
    rw [if_pos hk];congr 1;omega
theorem jU {T:Tr} (h:T.wk) (hk:¬T.root.kind=5) (hk7:¬T.root.kind=7):min (2+Le T) 1048576=aU T:=by
  cases T with
  | leaf n=>rfl
  | rep n a=>have:=h.1;simp only [Tr.root] at hk7;omega
  | bin n a b=>
    simp only [Tr.root] at hk
    simp only [aU,rN,Le,Ek,Tr.kids,List.map_cons,List.map_nil,List.foldl_cons,List.foldl_nil]
    rw [if_neg hk];congr 1;omega
theorem cV {T:Tr} (h:T.wk) (hk:T.root.kind=7):min (dT T.root ((T.kids.map aU).getD 0 0)) 1048576=aU T:=by
  cases T with
  | leaf n=>simp only [Tr.wk,Tr.root] at h hk;omega
  | rep n a=>rfl
  | bin n a b=>have:=h.1;simp only [Tr.root] at hk;omega
def um (l:List Nd) (k:Nat) (st:List Int):Prop:=∃F:List Tr,Gs F∧l.take k=bp F∧st=F.map aU
theorem um.start (l:List Nd):um l 0 []:=⟨[],(by intro x hx;cases hx),Bu,rfl⟩
theorem Sy {l:List Nd} {i:Nat} {T:Tr} (h:Sub l i T) (ho:∀n,n∈l→cW n=true):fM T:=fun n hn=>ho n (by
  have e:=h.eq
  have:n∈l.take (i+1):=by rw [e];exact List.mem_append_right _ hn
  exact List.mem_of_mem_take this)
theorem um.step {l:List Nd} (hl:s6 l) {k:Nat} {st:List Int} (hk:k<l.length) (h:um l k st):∃(T:Tr) (q:Nat),Sub l k T∧fM T∧(st.length:Int)-bR (l.getD k cQ).kind=q∧q≤st.length∧st.drop q=T.kids.map aU∧um l (k+1) (st.take q++[aU T])∧T.root=l.getD k cQ∧q+T.kids.length=st.length:=by
  obtain ⟨F,hF,e,rfl⟩:=h
  obtain ⟨_,ho,T0,hw0,rfl⟩:=hl
  obtain ⟨T,hT⟩:=FJ _ [T0] T0.flat T0.flat.length 0 (Nat.le_refl _) (by intro x hx;simp at hx;subst hx;exact hw0) (Nat.le_refl _) oz Bu k oz hk
  obtain ⟨hr,f,hf,e2⟩:=hT.root
  have JS:=dQ hT.1
  have acg:∃G0,F=G0++T.kids:=by
    rcases Nat.le_total T.kids.length F.length with h1|h1
    · obtain ⟨G0,h2,_⟩:=fk (iR hT.1) hF h1 (p:=T0.flat.take f) (q:=[]) (by rw [←e2,e];simp)
      exact ⟨G0,h2⟩
    · obtain ⟨G0,h2,h3⟩:=fk hF (iR hT.1) h1 (p:=[]) (q:=T0.flat.take f) (by rw [←e2,e];simp)
      have h4:=congrArg List.length h3
      have h5:=lY G0
      simp only [List.length_nil,List.length_append] at h4
      have:G0=[]:=List.length_eq_zero_iff.1 oz
      subst this
      exact ⟨[],by rw [h2];rfl⟩
  obtain ⟨G0,rfl⟩:=acg
  refine ⟨T,G0.length,hT,Sy hT ho,?_,?_,?_,⟨G0++[T],?_,?_,?_⟩,hr.symm,by simp⟩
  · rw [hr,JS,List.length_map,List.length_append];omega
  · simp
  · simp
  · intro x hx
    rcases List.mem_append.1 hx with h9|h9
    · exact hF x (by simp [h9])
    · simp at h9;subst h9;exact hT.1
  · rw [ka _ hk,e,hr,bJ,bJ,cb,dP T];simp
  · simp
theorem um.fin {T:Tr} (hw:T.wk) {st:List Int} (h:um T.flat T.flat.length st):st=[aU T]:=by
  obtain ⟨F,hF,e,rfl⟩:=h
  rw [List.take_length] at e
  have e2:[]++bp [T]=[]++bp F:=by simp [cb,e]
  rcases Nat.le_total F.length 1 with h1|h1
  · obtain ⟨G0,h2,h3⟩:=fk hF (G:=[T]) (by intro x hx;simp at hx;subst hx;exact hw) (by simpa using h1) e2.symm
    have h5:=lY G0
    have h4:bp G0=[]:=by simpa using h3.symm
    rw [h4] at h5
    have:G0=[]:=List.length_eq_zero_iff.1 (by simpa using h5)
    subst this
    have h6:F=[T]:=by simpa using h2.symm
    rw [h6];rfl
  · obtain ⟨G0,h2,h3⟩:=fk (F:=[T]) (by intro x hx;simp at hx;subst hx;exact hw) hF (by simpa using h1) e2
    have h5:=lY G0
    have h4:bp G0=[]:=by simpa using h3.symm
    rw [h4] at h5
    have:G0=[]:=List.length_eq_zero_iff.1 (by simpa using h5)
    subst this
    rw [h2];rfl
theorem I8 {n:Nd} {x:Int} (h:0≤n.lo∧n.lo≤32∧(n.hi= -1∨n.lo≤n.hi∧n.hi≤32)):dT n x=if n.hi= -1 then 2+n.lo*x+x+1 else 2+n.lo*x+(n.hi-n.lo)*(x+1):=by
  unfold dT
  rcases h.2.2 with h3|⟨h3,h4⟩
  · rw [if_pos oz,if_pos h3,Int.add_mul,Int.one_mul];omega
  · rw [if_neg oz,if_neg oz,Int.mul_add,Int.sub_mul];omega
theorem FsR.at {l:List Nd} {fs:List Int} (h:FsR l fs) {j:Nat} {S:Tr} (hS:Sub l j S):fs.getD j 0=(j:Int)+1-S.flat.length:=by
  rcases h.2 j hS.2.1 with ⟨S2,h8,h9⟩|⟨h8,_⟩
  · rw [h8.uniq hS] at h9;exact h9
  · exact absurd ⟨S,hS⟩ h8
theorem fM.kids {T:Tr} (h:fM T):∀S,S∈T.kids→fM S:=by
  intro S hS
  cases T with
  | leaf n=>simp [Tr.kids] at hS
  | rep n a=>simp [Tr.kids] at hS;subst hS;exact h.rep
  | bin n a b=>simp [Tr.kids] at hS;rcases hS with rfl|rfl;exact h.kO;exact h.kN
theorem Mu {T:Tr} (h:T.wk) (ho:fM T):∀m,m<(T.kids.map aU).length→2≤(T.kids.map aU).getD m 0∧(T.kids.map aU).getD m 0≤1048576:=by
  intro m hm
  rw [List.getD_eq_getElem?_getD,List.getElem?_eq_getElem hm,Option.getD_some,List.getElem_map]
  exact dx _ (iR h _ (List.getElem_mem _)) (ho.kids _ (List.getElem_mem _))
def QZ (l:List Nd) (z:Int):Prop:=(dO l=false∧z= -1)∨∃T:Tr,T.wk∧T.flat=l∧fM T∧z=aU T
theorem um.Ud {l:List Nd} (hl:s6 l) {k:Nat} {st:List Int} (hk:k=l.length) (h:um l k st):st.length=1∧QZ l (st.getD 0 0):=by
  obtain ⟨_,ho,T,hw,rfl⟩:=hl
  subst hk
  have:=um.fin hw h
  subst this
  exact ⟨rfl,.inr ⟨T,hw,rfl,ho,rfl⟩⟩
theorem p7 (l:List Int) {i:Nat} (hi:i<l.length):l.take (i+1)=l.take i++[l.getD i 0]:=by
  rw [List.take_add_one,List.getElem?_eq_getElem hi,List.getD_eq_getElem?_getD,List.getElem?_eq_getElem hi];rfl
theorem cy {st:List Int} {q:Nat} :(st.drop q).getD 0 0=st.getD q 0:=by simp [List.getD_eq_getElem?_getD]
theorem rh {a b:Int} (ha:0≤a∧a≤33) (hb:0≤b∧b≤1048577):0≤a*b∧a*b≤34603041:=by
  have h1:=Int.mul_nonneg ha.1 hb.1
  have h2:a*b≤33*1048577:=Int.mul_le_mul ha.2 hb.2 hb.1 dk
  omega
theorem IQ {n:Nd} {a b:Tr} (h:n.kind=5):aU (.bin n a b)=rN (aU a+aU b):=by simp only [aU];rw [if_pos h]
theorem IP {n:Nd} {a b:Tr} (h:¬n.kind=5):aU (.bin n a b)=rN (aU a+aU b+2):=by simp only [aU];rw [if_neg h]
theorem IN {n:Nd} {a:Tr} :aU (.rep n a)=rN (dT n (aU a)):=rfl
theorem IM {n:Nd} {a:Tr} {j sz:Int} (h:0≤n.lo∧n.lo≤32∧(n.hi= -1∨n.lo≤n.hi∧n.hi≤32)) (hj:n.lo≤j∧(j≤n.hi∨j=n.lo)) (he:¬j<n.hi) (hs:sz=2+n.lo*aU a+(if n.hi= -1 then aU a+1 else 0)+(j-n.lo)*(aU a+1)):rN sz=aU (.rep n a):=by
  rw [IN,I8 h,hs]
  by_cases hh:n.hi= -1
  · rw [if_pos hh,if_pos hh,show j-n.lo=0 by omega];congr 1;omega
  · rw [if_neg hh,if_neg hh,show j=n.hi by omega];congr 1;omega
theorem IC (T:Tr) (h:T.wk):(bN T).root=fu T.root:=by
  cases T with
  | leaf n=>rfl
  | rep n a=>
    have:=h.1
    have e:fu n=n:=by unfold fu;rw [if_neg oz,if_neg oz]
    exact e.symm
  | bin n a b=>
    have:=h.1
    have e:fu n=n:=by unfold fu;rw [if_neg oz,if_neg oz]
    simp only [bN]
    split<;>simp [Tr.root,e]
def kq (T:Tr) (i:Nat):List Int:=if T.root.kind=5 then (bQ T i).reverse else bQ T i
theorem Mv {l:List Nd} {i m:Nat} {T:Tr} (h:Sub l i T) (hm:m<(kq T i).length):0≤(kq T i).getD m 0∧(kq T i).getD m 0<(i:Int)∧∃S,Sub l ((kq T i).getD m 0).toNat S∧(bN T).kids.take (m+1)=(bN T).kids.take m++[bN S]:=by
  cases T with
  | leaf n=>
              have:(kq (.leaf n) i).length=0:=by unfold kq;split<;>rfl
              omega
  | rep n a=>
    have hk:=h.1.1
    have e:kq (.rep n a) i=[(i:Int)-1]:=by unfold kq;rw [if_neg (by simp only [Tr.root];omega)];rfl
    rw [e] at hm ⊢
    obtain rfl:m=0:=by simpa using hm
    have hs:=h.rep
    refine ⟨by simp;omega,by simp;omega,a,?_,rfl⟩
    rw [show ([(i:Int)-1].getD 0 0).toNat=i-1 by simp];exact hs.2.1
  | bin n a b=>
    have hs:=h.bin
    by_cases hk:n.kind=5
    · have e:kq (.bin n a b) i=[(i:Int)-1,(i:Int)-1-b.flat.length]:=by exact if_pos hk
      have et:bN (.bin n a b)= .bin n (bN b) (bN a):=by simp only [bN];rw [if_pos hk]
      rw [e] at hm ⊢;rw [et]
      rcases (by have h9:m<2:=hm;omega:m=0∨m=1) with rfl|rfl
      · refine ⟨by simp;omega,by simp;omega,b,?_,rfl⟩
        rw [show ([(i:Int)-1,(i:Int)-1-b.flat.length].getD 0 0).toNat=i-1 by simp];exact hs.2.1
      · have:=dV b
        refine ⟨by simp;omega,by simp;omega,a,?_,rfl⟩
        rw [show ([(i:Int)-1,(i:Int)-1-b.flat.length].getD 1 0).toNat=i-1-b.flat.length by (show ((i:Int)-1-b.flat.length).toNat=_;omega)];exact hs.2.2.2
    · have e:kq (.bin n a b) i=[(i:Int)-1-b.flat.length,(i:Int)-1]:=by exact if_neg hk
      have et:bN (.bin n a b)= .bin n (bN a) (bN b):=by simp only [bN];rw [if_neg hk]
      rw [e] at hm ⊢;rw [et]
      rcases (by have h9:m<2:=hm;omega:m=0∨m=1) with rfl|rfl
      · have:=dV b
        refine ⟨by simp;omega,by simp;omega,a,?_,rfl⟩
        rw [show ([(i:Int)-1-b.flat.length,(i:Int)-1].getD 0 0).toNat=i-1-b.flat.length by (show ((i:Int)-1-b.flat.length).toNat=_;omega)];exact hs.2.2.2
      · refine ⟨by simp;omega,by simp;omega,b,?_,rfl⟩
        rw [show ([(i:Int)-1-b.flat.length,(i:Int)-1].getD 1 0).toNat=i-1 by simp];exact hs.2.1
theorem yL (T:Tr) (i:Nat):(kq T i).length=(bN T).kids.length:=by
  unfold kq
  cases T with
  | leaf n=>split<;>rfl
  | rep n a=>split<;>rfl
  | bin n a b=>simp only [bN];split<;>(split<;>rfl)
theorem pV (F:List Tr) (k:Nat):(bp (F.take k)).length≤(bp F).length:=by
  have h:=congrArg (fun x=>(bp x).length) (List.take_append_drop k F)
  simp only [bJ,List.length_append] at h;omega
theorem Gy {T:Tr} (h:T.wk):(bp (bN T).kids).length+1=T.flat.length:=by
  have:=congrArg List.length (dP (bN T))
  rw [j9] at this;simpa using this.symm
theorem II {T S:Tr} (h:T.wk) {k:Nat} (e:(bN T).kids.take (k+1)=(bN T).kids.take k++[bN S]):(bp ((bN T).kids.take k)).length+S.flat.length<T.flat.length:=by
  have h1:=pV (bN T).kids (k+1)
  have h2:=Gy h
  rw [e,bJ,cb,List.length_append,j9] at h1
  omega
theorem KV {n:Nd} {k:Int} (h:k=(fu n).kind):(⟨k,n.set,n.lo,n.hi⟩:Nd)=fu n:=by
  subst h;unfold fu;split
  · rfl
  · split<;>rfl
theorem Fm (T:Tr) (i:Nat):(kq T i).length=(bQ T i).length:=by unfold kq;split<;>simp
theorem Hj (T:Tr):T.kids.length≤2:=by cases T<;>simp [Tr.kids]
theorem ID {T:Tr} (h:T.wk):(bN T).flat=bp (bN T).kids++[fu T.root]:=by rw [dP,IC T h]
def ZG (l:List Nd) (o:List Nd) (e:Int):Prop:=(dO l=false∧o=[]∧e=3)∨∃T:Tr,T.wk∧T.flat=l∧fM T∧o=(bN T).flat∧e=0
def qe (l:List Nat):List Int:=l.map fun x=>((x:Nat):Int)
theorem vI (l:List Nat):(qe l).length=l.length:=by simp [qe]
theorem Ma (l:List Nat) (j:Nat):(qe l).getD j 0=((l.getD j 0:Nat):Int):=by
  unfold qe
  simp only [List.getD_eq_getElem?_getD,List.getElem?_map]
  rcases l[j]? with _|x<;>rfl
theorem vJ (l m:List Nat):qe (l++m)=qe l++qe m:=by simp [qe]
theorem Py (o:List aR) (t:aR) (v:Int):dy ((o++[t])++[emp]) o.length v=o++[{ t with a:=v },emp]:=by
  unfold dy
  rw [List.append_assoc]
  have e:(o++([t]++[emp])).getD o.length ay=t:=by simp [List.getD_eq_getElem?_getD]
  rw [e];simp
theorem uB {n:Nd} {o:List aR} {t:aR} (h:t.kind=(jL n 0).kind) (hb:t.b=0) (hs:t.set=n.set):aW (.leaf n) o=⟨dy ((o++[t])++[emp]) o.length (((o++[t]).length:Nat):Int),o.length,(o++[t]).length⟩:=by
  rw [Py,show (o++[t]).length=o.length+1 by simp]
  simp only [aW]
  have e:jL n (((o.length:Nat):Int)+1)= { t with a:=((o.length+1:Nat):Int) } :=by
    obtain ⟨k,a,b,s⟩:=t
    simp only at h hb hs
    subst h;subst hb;subst hs
    rfl
  rw [e]
theorem S0 {n:Nd} {a b:Tr} {o:List aR} (h:n.kind=5):aW (.bin n a b) o=⟨dy (aW b (aW a o).s).s (aW a o).last ((aW b (aW a o).s).first:Nat),(aW a o).first,(aW b (aW a o).s).last⟩:=by
  simp only [aW];rw [if_pos h]
theorem Xj {n:Nd} {a b:Tr} {o:List aR} (h:¬n.kind=5) {y:List aR} (hy:y=(aW b (aW a o).s).s):
    aW (.bin n a b) o=⟨dy (dy ((y++[(⟨3,((aW a o).first:Nat),((aW b (aW a o).s).first:Nat),Bs.zero⟩:aR)])++[emp]) (aW a o).last (((y++[(⟨3,((aW a o).first:Nat),((aW b (aW a o).s).first:Nat),Bs.zero⟩:aR)]).length:Nat):Int)) (aW b (aW a o).s).last (((y++[(⟨3,((aW a o).first:Nat),((aW b (aW a o).s).first:Nat),Bs.zero⟩:aR)]).length:Nat):Int),y.length,(y++[(⟨3,((aW a o).first:Nat),((aW b (aW a o).s).first:Nat),Bs.zero⟩:aR)]).length⟩:=by
  rw [show (y++[(⟨3,((aW a o).first:Nat),((aW b (aW a o).s).first:Nat),Bs.zero⟩:aR)]).length=y.length+1 by simp]
  simp only [aW];rw [if_neg h,hy,List.append_assoc];rfl
theorem Pv {f:List aR→Pt} {k ah:Nat} {x:List aR×Nat} {q:List aR} (h:eW f k x=(q,ah)):eW f (k+1) x=(dy (f q).s ah ((f q).first:Nat),(f q).last):=by simp only [eW,h]
theorem Pw {f:List aR→Pt} {z k ah lo:Nat} {o q:List aR} (hf:Mk f z) (h:eW f k (o++[emp],o.length)=(q,ah)) (hk:k≤lo):o.length≤ah∧ah<q.length∧q.length=o.length+1+k*z∧k*z≤lo*z∧(k<lo→k*z+z≤lo*z):=by
  have h1:=o4 hf (o++[emp],o.length) k
  have h2:=mG hf (x:=(o++[emp],o.length)) (n:=o.length) (Nat.le_refl _) (by simp) k
  rw [h] at h1 h2
  simp only [List.length_append,List.length_singleton] at h1
  refine ⟨h2.1,h2.2.1,h1,Nat.mul_le_mul_right _ hk,fun h9=>?_⟩
  have:=Nat.mul_le_mul_right z (show k+1≤lo from h9)
  rw [Nat.succ_mul] at this;exact this
theorem PV {f:List aR→Pt} {j Ea:Nat} {x:List aR×Nat} {q2:List aR} {sp:List Nat} (h:cY f j x=(q2,Ea,sp)):cY f (j+1) x=(dy ((f q2).s++[⟨3,((f q2).first:Nat),0,Bs.zero⟩]) Ea ((f q2).s.length:Nat),(f q2).last,sp++[(f q2).s.length]):=by simp only [cY,h]
theorem Hw {f:List aR→Pt} {z j ah Ea d:Nat} {q q2:List aR} {sp:List Nat} (hf:Mk f z) (hq:ah<q.length) (h:cY f j (q,ah)=(q2,Ea,sp)) (hj:j≤d):Ea<q2.length∧q2.length=q.length+j*(z+1)∧(∀i,i∈sp→i<q2.length)∧sp.length=j∧j*(z+1)≤d*(z+1)∧(j<d→j*(z+1)+z+1≤d*(z+1)):=by
  have h1:=kV hf (q,ah) j
  have h2:=mM hf (x:=(q,ah)) (n:=0) (Nat.zero_le _) hq j
  rw [h] at h1 h2
  refine ⟨h2.2.1,h1,fun i hi=>(h2.2.2.1 i hi).2,h2.2.2.2.1,Nat.mul_le_mul_right _ hj,fun h9=>?_⟩
  have:=Nat.mul_le_mul_right (z+1) (show j+1≤d from h9)
  rw [Nat.succ_mul] at this;omega
def Vh (f:List aR→Pt) (n:Nd) (o q:List aR) (sI:List Int) (Mn:Nat):Prop:=
  ∃sp:List Nat,sI=qe sp∧(∀i,i∈sp→i<q.length)∧jE f n o=⟨fK q sp ((Mn:Nat):Int),o.length,Mn⟩
theorem BX {f:List aR→Pt} {n:Nd} {o q:List aR} {ah z:Nat} (hf:Mk f z) (hh:n.hi<0) (hr:eW f n.lo.toNat (o++[emp],o.length)=(q,ah)) {u:List aR} (hu:u=dy ((f q).s++[⟨3,((f q).first:Nat),0,Bs.zero⟩]) ah ((f q).s.length:Nat)):
    Vh f n o (dy (u++[emp]) (f q).last ((f q).s.length:Nat)) ([]++[(((f q).s.length:Nat):Int)]) u.length:=by
  refine ⟨[(f q).s.length],rfl,fun i hi=>?_,?_⟩
  · simp only [List.mem_singleton] at hi
    subst hi
    rw [cK,List.length_append,hu,cK,List.length_append];simp;omega
  · unfold jE
    simp only
    rw [if_pos hh,hr]
    simp only [cY,List.nil_append,List.getD_cons_zero]
    rw [hu]
theorem BW {f:List aR→Pt} {n:Nd} {o q q2:List aR} {ah Ea z:Nat} {sp:List Nat} {sI:List Int} (hf:Mk f z) (hh:¬n.hi<0) (hr:eW f n.lo.toNat (o++[emp],o.length)=(q,ah)) (hq:ah<q.length) (lu:cY f (n.hi-n.lo).toNat (q,ah)=(q2,Ea,sp)) (hs:sI=qe sp):
    Vh f n o (dy (q2++[emp]) Ea ((q2.length:Nat):Int)) sI q2.length:=by
  have h2:=Hw hf hq lu (Nat.le_refl _)
  refine ⟨sp,hs,fun i hi=>?_,?_⟩
  · have:=h2.2.2.1 i hi
    rw [cK,List.length_append];omega
  · unfold jE
    simp only
    rw [if_neg hh,hr,lu]
theorem Er (s:List aR) (l:List Nat) (i:Nat) (v:Int):fK s (l++[i]) v=qP (fK s l v) i v:=by simp [fK]
theorem Ep {s:List aR} {l:List Nat} {j:Nat} (v:Int) (h:j<l.length):fK s (l.take (j+1)) v=qP (fK s (l.take j) v) (l.getD j 0) v:=by
  have e:l.take (j+1)=l.take j++[l.getD j 0]:=by
    rw [List.take_add_one,List.getElem?_eq_getElem h,List.getD_eq_getElem?_getD,List.getElem?_eq_getElem h];rfl
  rw [e,Er]
theorem SZ (n:Nd) (a:Tr) (o:List aR):aW (.rep n a) o=jE (aW a) n o:=rfl
theorem IS (n:Nd) (a:Tr):bA (.rep n a)=2+n.lo.toNat*bA a+(if n.hi<0 then bA a+1 else (n.hi-n.lo).toNat*(bA a+1)):=rfl
theorem En {n:Nd} {a b:Tr} (h:n.kind=5):bA (.bin n a b)=bA a+bA b:=if_pos h
theorem Em {n:Nd} {a b:Tr} (h:¬n.kind=5):bA (.bin n a b)=bA a+bA b+2:=if_neg h
def mQ:aR:=⟨6,0,0,Bs.zero⟩
def qC (l:List Nd) (st:List aR) (s0 f0 er:Int):Prop:=
  (dO l=false∧st=[]∧s0=0∧f0=0∧er=3)∨
  ∃T:Tr,T.wk∧T.flat=l∧fM T∧((aU T>600∧st=[]∧s0=0∧f0=0∧er=4)∨
    (aU T≤600∧st=(aW T []).s.set (aW T []).last mQ∧s0=((aW T []).first:Nat)∧f0=((aW T []).last:Nat)∧er=0))
theorem wm {T T':Tr} (h:T.wk) (h':T'.wk) (e:T.flat=T'.flat):T=T':=by
  have h1:=Sub.self h
  have h2:=Sub.self h'
  rw [←e] at h2
  exact h1.uniq h2
theorem p6 {T:Tr} (h:T.wk) (ho:fM T) (hl:T.flat.length≤512):dO T.flat=true:=kh.2 ⟨hl,ho,T,h,rfl⟩
theorem N8 {l:List Nd} {z:Int} (h:QZ l z) (hz:z<0):qC l [] 0 0 3:=by
  rcases h with ⟨h1,h2⟩|⟨T,h1,h2,h3,h4⟩
  · exact .inl ⟨h1,rfl,rfl,rfl,rfl⟩
  · have:=dx T h1 h3;omega
theorem N7 {l:List Nd} {z:Int} (h:QZ l z) (hz:z>600):qC l [] 0 0 4:=by
  rcases h with ⟨h1,h2⟩|⟨T,h1,h2,h3,h4⟩
  · omega
  · exact .inr ⟨T,h1,h2,h3,.inl ⟨by omega,rfl,rfl,rfl,rfl⟩⟩
theorem qC.uniq {l:List Nd} {st st':List aR} {s0 s0' f0 f0' er YR:Int} (h:qC l st s0 f0 er) (h':qC l st' s0' f0' YR) (hl:l.length≤512):st=st'∧s0=s0'∧f0=f0'∧er=YR:=by
  rcases h with ⟨h1,rfl,rfl,rfl,rfl⟩|⟨T,h1,h2,h3,h4⟩<;>rcases h' with ⟨uI,rfl,rfl,rfl,rfl⟩|⟨T',uI,uH,P7,OF⟩
  · exact ⟨rfl,rfl,rfl,rfl⟩
  · have:=p6 uI P7 (by rw [uH];exact hl);rw [uH,h1] at this;cases this
  · have:=p6 h1 h3 (by rw [h2];exact hl);rw [h2,uI] at this;cases this
  · have e:=wm h1 uI (h2.trans uH.symm);subst e
    rcases h4 with ⟨q,rfl,rfl,rfl,rfl⟩|⟨q,rfl,rfl,rfl,rfl⟩<;>rcases OF with ⟨q',rfl,rfl,rfl,rfl⟩|⟨q',rfl,rfl,rfl,rfl⟩<;>first|exact ⟨rfl,rfl,rfl,rfl⟩|omega
def ZP (s:aR) (m:Int):Prop:=1≤s.kind∧s.kind≤6∧(s.kind≠1→s.set=Bs.zero)∧(s.kind≠3→s.b=0)∧(s.kind=6→s.a=0)∧0≤s.a∧s.a<m∧0≤s.b∧s.b<m
structure rU (st:List aR) (s0 f0:Int):Prop where
  len:st.length≤600
  s:0≤s0∧s0<st.length
  f:0≤f0∧f0<st.length
  RW:∀i,i<st.length→ZP (st.getD i ay) st.length∧((st.getD i ay).kind=6↔(i:Int)=f0)
def goN (sym:Int) (s:aR):Bool:=decide (s.kind=2∨s.kind=4∧(sym=256∨sym=258)∨s.kind=5∧(sym=257∨sym=258))
def zQ (st:List aR) (sym:Int) (x:Int):List Int:=
  if (st.getD x.toNat ay).kind=3 then [(st.getD x.toNat ay).b,(st.getD x.toNat ay).a] else if goN sym (st.getD x.toNat ay)=true then [(st.getD x.toNat ay).a] else []
theorem sw {st:List aR} {sym x:Int} (h:(st.getD x.toNat ay).kind=3):zQ st sym x=[(st.getD x.toNat ay).b,(st.getD x.toNat ay).a]:=if_pos h
theorem E3 {st:List aR} {sym x:Int} (h:¬(st.getD x.toNat ay).kind=3) (hg:goN sym (st.getD x.toNat ay)=true):zQ st sym x=[(st.getD x.toNat ay).a]:=by unfold zQ;rw [if_neg h,if_pos hg]
theorem vD {st:List aR} {sym x:Int} (h:¬(st.getD x.toNat ay).kind=3) (hg:¬goN sym (st.getD x.toNat ay)=true):zQ st sym x=[]:=by unfold zQ;rw [if_neg h,if_neg hg]
theorem qZ {st:List aR} {s0 f0 sym x:Int} (h:rU st s0 f0) (hx:0≤x∧x<st.length):∀t,t∈zQ st sym x→0≤t∧t<(st.length:Int):=by
  have hf:=(h.RW x.toNat oz).1
  obtain ⟨_,_,_,_,_,h1,h2,h3,h4⟩:=hf
  intro t ht
  unfold zQ at ht
  split at ht
  · simp only [List.mem_cons,List.not_mem_nil,or_false] at ht;omega
  · split at ht
    · simp only [List.mem_singleton] at ht;omega
    · cases ht
def fD (o:List Bool) (x:Int):List Bool:=if o.getD x.toNat false=true then o else o.set x.toNat true
def fL (o:List Bool) (td:List Int) (x:Int):List Int:=if o.getD x.toNat false=true then td else td++[x]
theorem qT (o:List Bool) (x:Int):(fD o x).length=o.length:=by unfold fD;split<;>simp
theorem zJ {o:List Bool} {x:Int} (td:List Int) (hx:x.toNat<o.length):2*cf (fD o x)+(fL o td x).length≤2*cf o+td.length:=by
  unfold fD fL
  by_cases h:o.getD x.toNat false=true
  · rw [if_pos h,if_pos h];exact Nat.le_refl _
  · rw [if_neg h,if_neg h]
    have:=F8 o x.toNat hx (by simpa using h)
    rw [List.length_append,List.length_singleton];omega
theorem GW {o:List Bool} {x:Int} (hx:x.toNat<o.length):(fD o x).getD x.toNat false=true:=by
  unfold fD
  by_cases h:o.getD x.toNat false=true
  · rw [if_pos h];exact h
  · rw [if_neg h];simp [List.getD_eq_getElem?_getD,hx]
theorem sl {o:List Bool} {x:Int} {j:Nat} (h:o.getD j false=true):(fD o x).getD j false=true:=by
  unfold fD
  by_cases hx:o.getD x.toNat false=true
  · rw [if_pos hx];exact h
  · rw [if_neg hx]
    have hj:j<o.length:=by
      rcases Nat.lt_or_ge j o.length with h1|h1
      · exact h1
      · rw [List.getD_eq_getElem?_getD,List.getElem?_eq_none h1] at h;cases h
    rw [List.getD_eq_getElem?_getD,List.getElem?_set]
    split
    · simp_all
    · rw [←List.getD_eq_getElem?_getD];exact h
theorem B1 {o:List Bool} {x:Int} {j:Nat} (h:(fD o x).getD j false=true):o.getD j false=true∨j=x.toNat:=by
  unfold fD at h
  by_cases hx:o.getD x.toNat false=true
  · rw [if_pos hx] at h;exact .inl h
  · rw [if_neg hx,List.getD_eq_getElem?_getD,List.getElem?_set] at h
    split at h
    · right;omega
    · rw [←List.getD_eq_getElem?_getD] at h;exact .inl h
structure A0 (n:Nat) (t0:List Int) (o:List Bool) (td:List Int) (k:Nat):Prop where
  len:o.length=n
  init:∀i,i<k→o.getD (t0.getD i 0).toNat false=true
  Ai:∀t,t∈td→(0≤t∧t<(n:Int))∧o.getD t.toNat false=true
  j7:∀r:Nat,o.getD r false=true→(r:Int)∈td
  min:∀Q:Int→Prop,(∀t,t∈t0→Q t)→∀s:Nat,o.getD s false=true→Q s
theorem A0.start (n:Nat) (t0:List Int):A0 n t0 (List.replicate n false) [] 0:=by
  have no:∀r:Nat,¬(List.replicate n false).getD r false=true:=fun r h=>by
    rw [List.getD_eq_getElem?_getD,List.getElem?_replicate] at h
    split at h<;>simp at h
  exact ⟨by simp,fun i h=>by omega,fun t h=>by (cases h),fun r h=>absurd h (no r),fun Q _ s h=>absurd h (no s)⟩
theorem A0.put {n k:Nat} {t0 td:List Int} {o:List Bool} (h:A0 n t0 o td k) (hk:k<t0.length) (hr:∀t,t∈t0→0≤t∧t<(n:Int)):A0 n t0 (fD o (t0.getD k 0)) (fL o td (t0.getD k 0)) (k+1):=by
  have hm:t0.getD k 0∈t0:=ak hk
  have hb:=hr _ hm
  have PF:(t0.getD k 0).toNat<o.length:=by rw [h.len];omega
  refine ⟨(qT _ _).trans h.len,fun i hi=>?_,fun t ht=>?_,fun r lu=>?_,fun Q hQ s hs=>?_⟩
  · rcases Nat.lt_or_ge i k with h1|h1
    · exact sl (h.init i h1)
    · obtain rfl:i=k:=by omega
      exact GW PF
  · unfold fL at ht
    by_cases hx:o.getD (t0.getD k 0).toNat false=true
    · rw [if_pos hx] at ht;exact ⟨(h.Ai t ht).1,sl (h.Ai t ht).2⟩
    · rw [if_neg hx] at ht
      rcases List.mem_append.1 ht with h1|h1
      · exact ⟨(h.Ai t h1).1,sl (h.Ai t h1).2⟩
      · simp only [List.mem_singleton] at h1;subst h1;exact ⟨hb,GW PF⟩
  · unfold fL
    by_cases hx:o.getD (t0.getD k 0).toNat false=true
    · rw [if_pos hx];unfold fD at lu;rw [if_pos hx] at lu;exact h.j7 r lu
    · rw [if_neg hx]
      rcases B1 lu with h1|h1
      · exact List.mem_append_left _ (h.j7 r h1)
      · refine List.mem_append_right _ (List.mem_singleton.2 ?_);omega
  · rcases B1 hs with h1|h1
    · exact h.min Q hQ s h1
    · have e:((s:Nat):Int)=t0.getD k 0:=by omega
      rw [e];exact hQ _ hm
theorem A0.done {nx:Int→List Int} {n k:Nat} {t0 td:List Int} {o:List Bool} (h:A0 n t0 o td k) (hk:¬k<t0.length):uk nx n t0 o td:=
  ⟨h.len,fun t ht=>by
    obtain ⟨i,hi,rfl⟩:=List.mem_iff_getElem.1 ht
    have:=h.init i oz
    have e:t0.getD i 0=t0[i]:=by rw [List.getD_eq_getElem?_getD,List.getElem?_eq_getElem hi];rfl
    rw [e] at this;exact this,h.Ai,fun r hr=> .inl (h.j7 r hr),fun Q hQ _ s hs=>h.min Q hQ s hs⟩
section
variable {nx:Int→List Int} {n:Nat} {t0 td:List Int} {o:List Bool} {s:Int} {k:Nat}
theorem pH.put (h:pH nx n t0 o td s k) {x:Int} (hk:k<(nx s).length) (e:(nx s).getD k 0=x) (hb:0≤x∧x<(n:Int)):pH nx n t0 (fD o x) (fL o td x) s (k+1):=by
  subst e
  unfold fD fL
  by_cases hx:o.getD ((nx s).getD k 0).toNat false=true
  · rw [if_pos hx,if_pos hx];exact h.yB hk hx
  · rw [if_neg hx,if_neg hx];exact h.new hk hb
theorem vc (h:pH nx n t0 o td s 0) (e:nx s=[]):uk nx n t0 o td:=h.done (by rw [e];simp)
theorem zA (h:pH nx n t0 o td s 0) {x:Int} (e:nx s=[x]) (hr:∀t,t∈nx s→0≤t∧t<(n:Int)):uk nx n t0 (fD o x) (fL o td x):=
  (h.put (x:=x) (by rw [e];simp) (by rw [e];rfl) (hr x (by rw [e];simp))).done (by rw [e];simp)
theorem zz (h:pH nx n t0 o td s 0) {x y:Int} (e:nx s=[x,y]) (hr:∀t,t∈nx s→0≤t∧t<(n:Int)):uk nx n t0 (fD (fD o x) y) (fL (fD o x) (fL o td x) y):=
  ((h.put (x:=x) (by rw [e];simp) (by rw [e];rfl) (hr x (by rw [e];simp))).put (x:=y) (by rw [e];simp) (by rw [e];rfl) (hr y (by rw [e];simp))).done (by rw [e];simp)
end
theorem xU.uniq {nx:Int→List Int} {n:Nat} {t0 t1:List Int} {o o':List Bool} (h:xU nx n t0 o) (h':xU nx n t1 o') (hm:∀t,t∈t0↔t∈t1) (hr:∀t,t∈t0→0≤t) (hn:∀s:Int,0≤s→s<(n:Int)→∀t,t∈nx s→0≤t):o=o':=by
  have key:∀ {t0 t1:List Int} {o o':List Bool},xU nx n t0 o→xU nx n t1 o'→(∀t,t∈t0→t∈t1)→(∀t,t∈t0→0≤t)→∀s:Nat,o.getD s false=true→o'.getD s false=true:=fun {t0 t1 o o'} h h' hm hr s hs=>by
    have hb:∀r:Nat,o'.getD r false=true→r<n:=fun r lu=>by
      rcases Nat.lt_or_ge r n with h1|h1
      · exact h1
      · rw [List.getD_eq_getElem?_getD,List.getElem?_eq_none (by rw [h'.len];exact h1)] at lu;cases lu
    have:=h.min (fun x=>0≤x∧o'.getD x.toNat false=true) (fun t ht=>⟨hr t ht,h'.init t (hm t ht)⟩) (fun x hx t ht=>by
      have hxn:=hb _ hx.2
      refine ⟨hn x hx.1 oz t ht,h'.j7 x.toNat hx.2 t ?_⟩
      rw [Int.toNat_of_nonneg hx.1];exact ht) s hs
    simpa using this.2
  apply List.ext_getElem?
  intro i
  rcases Nat.lt_or_ge i n with hi|hi
  · have a:=key h h' (fun t=>(hm t).1) hr i
    have b:=key h' h (fun t=>(hm t).2) (fun t ht=>hr t ((hm t).2 ht)) i
    have e1:i<o.length:=by rw [h.len];exact hi
    have e2:i<o'.length:=by rw [h'.len];exact hi
    have x1:o.getD i false=o[i]:=by rw [List.getD_eq_getElem?_getD,List.getElem?_eq_getElem e1];rfl
    have x2:o'.getD i false=o'[i]:=by rw [List.getD_eq_getElem?_getD,List.getElem?_eq_getElem e2];rfl
    rw [x1,x2] at a b
    rw [List.getElem?_eq_getElem e1,List.getElem?_eq_getElem e2]
    rcases h1:o[i] with _|_<;>rcases h2:o'[i] with _|_<;>simp_all
  · rw [List.getElem?_eq_none (by rw [h.len];exact hi),List.getElem?_eq_none (by rw [h'.len];exact hi)]
def cq (o:List Bool):List Int:=qe ((List.range o.length).filter fun i=>o.getD i false)
def ri (o:List Bool) (k:Nat):List Int:=qe ((List.range k).filter fun i=>o.getD i false)
theorem Hd {o:List Bool} {k:Nat} (h:o.getD k false=true):ri o (k+1)=ri o k++[(k:Int)]:=by
  unfold ri;rw [List.range_succ,List.filter_append,vJ];simp only [List.filter_cons,h,List.filter_nil,if_true];rfl
theorem Ml {o:List Bool} {k:Nat} (h:¬o.getD k false=true):ri o (k+1)=ri o k:=by
  unfold ri;rw [List.range_succ,List.filter_append,vJ];simp only [List.filter_cons,h,List.filter_nil];simp [qe]
theorem He (o:List Bool) (k:Nat):(ri o k).length≤k:=by
  unfold ri;rw [vI]
  have:=List.length_filter_le (fun i=>o.getD i false) (List.range k)
  rw [List.length_range] at this;exact this
theorem og {o:List Bool} {x:Int} :x∈cq o↔∃i:Nat,x=(i:Int)∧o.getD i false=true:=by
  unfold cq qe
  simp only [List.mem_map,List.mem_filter,List.mem_range]
  constructor
  · rintro ⟨i,⟨h1,h2⟩,rfl⟩;exact ⟨i,rfl,h2⟩
  · rintro ⟨i,rfl,h2⟩
    refine ⟨i,⟨?_,h2⟩,rfl⟩
    rcases Nat.lt_or_ge i o.length with h1|h1
    · exact h1
    · rw [List.getD_eq_getElem?_getD,List.getElem?_eq_none h1] at h2;cases h2
theorem ko {o:List Bool} {x:Int} (h:x∈cq o):0≤x∧x<(o.length:Int):=by
  obtain ⟨i,rfl,h2⟩:=og.1 h
  rcases Nat.lt_or_ge i o.length with h1|h1
  · omega
  · rw [List.getD_eq_getElem?_getD,List.getElem?_eq_none h1] at h2;cases h2
theorem kp (o:List Bool):(cq o).length≤o.length:=He o o.length
def nh (st:List aR) (b:Nat) (x:Int):Bool:=decide ((st.getD x.toNat ay).kind=1)&&(st.getD x.toNat ay).set.has b
def ew (st:List aR) (fr:List Int) (b:Nat):List Int:=(fr.filter (nh st b)).map fun x=>(st.getD x.toNat ay).a
theorem yi {st:List aR} {fr:List Int} {b k:Nat} (hk:k<fr.length) (h:nh st b (fr.getD k 0)=true):ew st (fr.take (k+1)) b=ew st (fr.take k) b++[(st.getD (fr.getD k 0).toNat ay).a]:=by
  unfold ew
  rw [p7 fr hk,List.filter_append,List.map_append];simp only [List.filter_cons,h,List.filter_nil,if_true];rfl
theorem BF {st:List aR} {fr:List Int} {b k:Nat} (hk:k<fr.length) (h:¬nh st b (fr.getD k 0)=true):ew st (fr.take (k+1)) b=ew st (fr.take k) b:=by
  unfold ew
  rw [p7 fr hk,List.filter_append,List.map_append];simp only [List.filter_cons,h,List.filter_nil];simp
theorem yj (st:List aR) (fr:List Int) (b:Nat):(ew st fr b).length≤fr.length:=by
  unfold ew;rw [List.length_map];exact List.length_filter_le _ _
theorem oO {st:List aR} {s0 f0:Int} {fr:List Int} {b:Nat} (h:rU st s0 f0) (hr:∀t,t∈fr→0≤t∧t<(st.length:Int)):∀t,t∈ew st fr b→0≤t∧t<(st.length:Int):=by
  intro t ht
  unfold ew at ht
  obtain ⟨x,hx,rfl⟩:=List.mem_map.1 ht
  have KB:=hr x (List.mem_filter.1 hx).1
  have hf:=(h.RW x.toNat oz).1
  exact ⟨hf.2.2.2.2.2.1,hf.2.2.2.2.2.2.1⟩
def qB (st:List aR) (fr:List Int) (sym:Int) (o:List Bool):Prop:=xU (zQ st sym) st.length fr o
theorem qB.uniq {st:List aR} {s0 f0 sym:Int} {fr fr':List Int} {o o':List Bool} (hN:rU st s0 f0) (h:qB st fr sym o) (h':qB st fr' sym o') (hm:∀t,t∈fr↔t∈fr') (hr:∀t,t∈fr→0≤t):o=o':=
  xU.uniq h h' hm hr (fun s h0 h1 t ht=>(qZ hN ⟨h0,h1⟩ t ht).1)
inductive To (d:au):Int→Int→Prop
  | refl (s:Int):To d s s
  | step {s u t:Int} :u∈Jk d s→To d u t→To d s t
theorem To.trans {d:au} {a b c:Int} (h:To d a b) (k:To d b c):To d a c:=by
  induction h with
  | refl s=>exact k
  | step hu _ ih=>exact .step hu (ih k)
theorem To.snoc {d:au} {a b c:Int} (h:To d a b) (k:c∈Jk d b):To d a c:=h.trans (.step k (.refl c))
theorem ed {ps:List (LR Int)} {q t:Nat} {p:LR Int} (hq:q<ps.length):(ps.set q p).getD t ae=if q=t then p else ps.getD t ae:=by
  simp only [List.getD_eq_getElem?_getD,List.getElem?_set]
  split
  · rename_i e;subst e;simp [hq]
  · rfl
def Oe (d:au) (o:List Bool):Prop:=(aD d=false→o=[])∧(aD d=true→o.length=d.acc.length∧∀s:Nat,s<d.acc.length→(o.getD s false=true↔To d d.start s))
theorem LA {d:au} {o:List Bool} (hr:aD d=true) (hs:xU (Jk d) d.acc.length [d.start] o):Oe d o:=by
  have Ho:=bh.1 hr
  refine ⟨fun h=>(by rw [hr] at h;cases h),fun _=>⟨hs.len,fun s Xx=>⟨fun ho=>?_,fun ht=>?_⟩⟩⟩
  · exact hs.min (fun x=>To d d.start x) (fun t ht=>by simp only [List.mem_singleton] at ht;subst ht;exact .refl _) (fun x hx t ht=>hx.snoc ht) s ho
  · have key:∀a b:Int,To d a b→0≤a∧a<(d.acc.length:Int)→o.getD a.toNat false=true→o.getD b.toNat false=true:=by
      intro a b FD
      induction FD with
      | refl s=>intro _ h;exact h
      | @step a u t hu _ ih=>
        intro ha h
        have hub:=L3 hr ha.1 ha.2 hu
        refine ih hub (hs.j7 a.toNat h u ?_)
        rw [Int.toNat_of_nonneg ha.1];exact hu
    have:=key _ _ ht ⟨Ho.1.2.2.2.2.2.2.1,Ho.1.2.2.2.2.2.2.2⟩ (hs.init _ (by simp))
    simpa using this
def cG (X:List (LR Bool)) (r c:Nat):Bool:=(X.getD r ae).xs.getD c false
theorem Pl {d:au} {s t:Int} :t∈Jk d s↔∃i,i<d.cls.length∧d.next.getD (s*d.width+d.cls.getD i 0).toNat 0=t:=by
  simp only [Jk,List.mem_map,qH]
  constructor
  · rintro ⟨c,hc,rfl⟩
    obtain ⟨i,hi,rfl⟩:=List.mem_iff_getElem.1 hc
    exact ⟨i,hi,by simp [List.getD_eq_getElem?_getD,hi]⟩
  · rintro ⟨i,hi,rfl⟩
    exact ⟨d.cls.getD i 0,by simp [List.getD_eq_getElem?_getD,hi],rfl⟩
theorem JU {q:List Bool} {i j:Nat} {b:Bool} (hi:i<q.length):(q.set i b).getD j false=if i=j then b else q.getD j false:=by
  simp only [List.getD_eq_getElem?_getD,List.getElem?_set]
  split
  · rename_i e;subst e;simp [hi]
  · rfl
def dN (d:au) (i:Nat) (c:Int):Nat:=(bO d (i:Int) c).toNat
def Di (d:au):Nat→Nat→Nat→Prop
  | 0,i,k=>d.acc.getD i false≠d.acc.getD k false
  | t+1,i,k=>Di d t i k∨∃c:Int,(0≤c∧c<259)∧Di d t (dN d i c) (dN d k c)
def Sj (d:au) (i k:Nat):Prop:=∃t,Di d t i k
theorem sP {d:au} :∀ {t i k:Nat},Di d t i k→Di d t k i
  | 0,_,_,h=>Ne.symm h
  | t+1,_,_,h=>by
    rcases h with h|⟨c,hc,h⟩
    · exact .inl (sP h)
    · exact .inr ⟨c,hc,sP h⟩
theorem HV {d:au} (hr:aD d=true) {i:Nat} (hi:i<d.acc.length) {c:Int} (hc:0≤c∧c<259):dN d i c<d.acc.length:=by
  have hs:=jX hr hc.1 hc.2
  have h9:=eA (q:=(i:Int)) hr oz oz hs.2.1 hs.2.2.1
  have h1:0≤bO d (i:Int) c∧bO d (i:Int) c<(d.acc.length:Int):=⟨h9.2.2.2.1,h9.2.2.2.2⟩
  unfold dN;omega
theorem AL {d:au} (hr:aD d=true) {i:Nat} (hi:i<d.acc.length) {c:Int} (hc:0≤c∧c<259):((dN d i c:Nat):Int)=bO d (i:Int) c:=by
  have hs:=jX hr hc.1 hc.2
  have h9:=eA (q:=(i:Int)) hr oz oz hs.2.1 hs.2.2.1
  have h1:0≤bO d (i:Int) c∧bO d (i:Int) c<(d.acc.length:Int):=⟨h9.2.2.2.1,h9.2.2.2.2⟩
  unfold dN;omega
theorem Mp (P:Nat→Prop):∀j,P j→∃r,r≤j∧P r∧∀k,k<r→¬P k:=by
  intro j
  induction j using Nat.strongRecOn with
  | _ j ih=>
    intro hj
    by_cases h:∃k,k<j∧P k
    · obtain ⟨k,hk,hp⟩:=h
      obtain ⟨r,h1,h2,h3⟩:=ih k hk hp
      exact ⟨r,by omega,h2,h3⟩
    · exact ⟨j,Nat.le_refl j,hj,fun k hk hp=>h ⟨k,hk,hp⟩⟩
def ie (c:Int) (l:List Int):Int:=if c∈l then ((ix c l:Nat):Int) else-1
def aE (l:List Int) (width:Int):List Int:=List.map (fun c:Nat=>ie (c:Int) l) (List.range (min width 259).toNat)
theorem o6 {α:Type} [DecidableEq α] {x:α} :∀ {l:List α},x∉l→ix x (l++[x])=l.length
  | [],_=>by simp [ix]
  | y::l,h=>by
    simp only [List.mem_cons,not_or] at h
    simp only [List.cons_append,ix,if_neg h.1,o6 h.2,List.length_cons]
theorem jc (l:List Int) (width:Int):(aE l width).length=(min width 259).toNat:=by simp [aE]
theorem tI (c:Int) (l:List Int) (x:Int):ie c (l++[x])=if c∈l then ie c l else if x=c then (l.length:Int) else-1:=by
  unfold ie
  by_cases h:c∈l
  · rw [if_pos (by simp [h]),if_pos h,if_pos h,qi _ h]
  · rw [if_neg h]
    by_cases e:x=c
    · subst e
      rw [if_pos (by simp),if_pos rfl]
      have:=o6 h
      rw [this]
    · rw [if_neg (by simp [h];exact fun e'=>e e'.symm),if_neg e]
theorem wv {c:Int} {l:List Int} :ie c l<0↔c∉l:=by
  unfold ie;split<;>rename_i h<;>simp [h]
structure KM (l:List Int) (n:Nat) (q:List Int) (k:Nat):Prop where
  len:q.length=n
  val:∀c:Nat,c<n→q.getD c 0=ie (c:Int) (l.take k)
theorem KM.start (l:List Int) (n:Nat):KM l n (List.replicate n (-1)) 0:=⟨by simp,fun c hc=>by simp [List.getD_eq_getElem?_getD,hc,ie]⟩
theorem bS {α:Type} {l:List α} {k:Nat} (d:α) (h:k<l.length):l.take (k+1)=l.take k++[l.getD k d]:=by
  rw [List.take_add_one,List.getElem?_eq_getElem h];simp [List.getD_eq_getElem?_getD,List.getElem?_eq_getElem h]
theorem lR {q:List Int} {i j:Nat} {b:Int} (hi:i<q.length):(q.set i b).getD j 0=if i=j then b else q.getD j 0:=by
  simp only [List.getD_eq_getElem?_getD,List.getElem?_set]
  split
  · rename_i e;subst e;simp [hi]
  · rfl
theorem KM.skip {l:List Int} {n:Nat} {q:List Int} {k:Nat} (h:KM l n q k) (hk:k<l.length) (hc:¬(0≤l.getD k 0∧l.getD k 0<(n:Int)∧q.getD (l.getD k 0).toNat 0<0)):KM l n q (k+1):=by
  refine ⟨h.len,fun c TN=>?_⟩
  rw [bS 0 hk,tI,h.val c TN]
  split
  · rfl
  · rename_i hn
    rw [if_neg (fun e=>hc ⟨by omega,by omega,?_⟩)]
    · unfold ie;rw [if_neg hn]
    · rw [e,Int.toNat_natCast,h.val c TN,wv];exact hn
theorem KM.put {l:List Int} {n:Nat} {q:List Int} {k:Nat} (h:KM l n q k) (hk:k<l.length) (h0:0≤l.getD k 0) (h1:l.getD k 0<(n:Int)) (h2:q.getD (l.getD k 0).toNat 0<0):KM l n (q.set (l.getD k 0).toNat (k:Int)) (k+1):=by
  have hl:(l.getD k 0).toNat<q.length:=by rw [h.len];omega
  have hx:l.getD k 0∉l.take k:=by
    have:=h.val (l.getD k 0).toNat oz
    rw [this,Int.toNat_of_nonneg h0,wv] at h2;exact h2
  refine ⟨by simp [h.len],fun c TN=>?_⟩
  rw [lR hl,bS 0 hk,tI]
  split
  · rename_i e
    have e':l.getD k 0=(c:Int):=by omega
    rw [←e',if_neg hx,if_pos rfl,List.length_take]
    congr 1;omega
  · rename_i e
    rw [h.val c TN]
    split
    · rfl
    · rename_i hn
      rw [if_neg oz]
      unfold ie;rw [if_neg hn]
theorem KM.fin {l:List Int} {width:Int} {q:List Int} {k:Nat} (h:KM l (min width 259).toNat q k) (hk:l.length≤k):aE l width=q:=by
  refine iE (d:=0) (by rw [jc,h.len]) fun i hi=>?_
  rw [jc] at hi
  rw [h.val i hi,List.take_of_length_le hk]
  simp [aE,List.getD_eq_getElem?_getD,hi]
theorem tH {l:List Int} {width:Int} {c:Nat} (h:c<(min width 259).toNat):(aE l width).getD c 0=ie (c:Int) l:=by simp [aE,List.getD_eq_getElem?_getD,h]
def eJ (a b:List Int):List Int:=if a.length=b.length then bV (a.zip b) else []
def ja (a b:List Int):Int:=if a.length=b.length then (((dd (a.zip b)).length:Nat):Int) else 0
theorem JD {a b:List Int} (h:a.length=b.length):(eJ a b).length=a.length:=by rw [eJ,if_pos h];simp [bV,h]
theorem lG {a b:List Int} {k:Nat} (ha:k<a.length) (hb:k<b.length):(a.zip b).getD k (0,0)=(a.getD k 0,b.getD k 0):=by
  simp [List.getD_eq_getElem?_getD,ha,hb,List.getElem?_eq_getElem (show k<(a.zip b).length by simp;omega)]
structure KK (z:List (Int×Int)) (q:List Int) (m:List ((Int×Int)×Int)) (k:Nat):Prop where
  len:q.length=z.length
  val:∀j,j<k→q.getD j 0=((ix (z.getD j (0,0)) (dd z):Nat):Int)
  map:m=sy (z.take k)
theorem KK.start (z:List (Int×Int)):KK z (List.replicate z.length 0) [] 0:=⟨by simp,fun j h=>by omega,by simp [sy,dd]⟩
theorem tz {z:List (Int×Int)} {k:Nat} {p:Int×Int} (h:p∈dd (z.take k)):ix p (dd z)=ix p (dd (z.take k)):=by
  have:=Um (z.take k) (z.drop k) h
  rwa [List.take_append_drop] at this
theorem KK.yB {z:List (Int×Int)} {q:List Int} {m:List ((Int×Int)×Int)} {k:Nat} {p:Int×Int} (h:KK z q m k) (hk:k<z.length) (hp:z.getD k (0,0)=p) (hs:(getM m p).isSome=true):KK z (q.set k ((getM m p).getD 0)) m (k+1):=by
  have hl:k<q.length:=by rw [h.len];exact hk
  rw [h.map,lO] at hs
  have hm:p∈z.take k:=by
    by_cases e:p∈z.take k
    · exact e
    · rw [if_neg e] at hs;cases hs
  refine ⟨by simp [h.len],fun j hj=>?_,?_⟩
  · rw [lR hl]
    split
    · rename_i e;subst e
      rw [h.map,lO,if_pos hm,hp,tz ((eP _ _).2 hm)];rfl
    · exact h.val j oz
  · rw [bS (0,0) hk,hp,L7 hm,h.map]
theorem KK.new {z:List (Int×Int)} {q:List Int} {m:List ((Int×Int)×Int)} {k:Nat} {p:Int×Int} (h:KK z q m k) (hk:k<z.length) (hp:z.getD k (0,0)=p) (hs:¬(getM m p).isSome=true):KK z (q.set k ((m.length:Nat):Int)) (iC m p ((m.length:Nat):Int)) (k+1):=by
  have hl:k<q.length:=by rw [h.len];exact hk
  rw [h.map,lO] at hs
  have hm:p∉z.take k:=fun e=>by rw [if_pos e] at hs;exact hs rfl
  have hmd:p∉dd (z.take k):=fun e=>hm ((eP _ _).1 e)
  refine ⟨by simp [h.len],fun j hj=>?_,?_⟩
  · rw [lR hl]
    split
    · rename_i e;subst e
      have e1:dd (z.take (k+1))=dd (z.take k)++[p]:=by rw [bS (0,0) hk,hp,gA,if_neg hmd]
      have e2:p∈dd (z.take (k+1)):=by rw [e1];simp
      rw [hp,tz e2,e1,h.map,q9]
      rw [o6 hmd]
    · exact h.val j oz
  · rw [bS (0,0) hk,hp,h.map,Cy hm]
theorem KK.fin {a b q:List Int} {m:List ((Int×Int)×Int)} {k:Nat} (h:KK (a.zip b) q m k) (FD:a.length=b.length) (hk:k=a.length):eJ a b=q∧ja a b=((m.length:Nat):Int):=by
  have Xr:(a.zip b).length=a.length:=by simp [FD]
  constructor
  · rw [eJ,if_pos FD]
    refine iE (d:=0) (by simp [bV,h.len]) fun i hi=>?_
    have uG:i<(a.zip b).length:=by simpa [bV] using hi
    rw [h.val i oz]
    simp only [bV,List.getD_eq_getElem?_getD,List.getElem?_map,List.getElem?_eq_getElem uG,Option.map_some,Option.getD_some]
  · rw [ja,if_pos FD,h.map,q9,List.take_of_length_le oz]
theorem Jm {l:List Int} {i:Nat} (h:i<l.length):(bV l).getD i 0=((ix (l.getD i 0) (dd l):Nat):Int):=by
  unfold bV
  simp [List.getD_eq_getElem?_getD,List.getElem?_map,List.getElem?_eq_getElem h]
theorem hO (l:List Int):(bV l).length=l.length:=by simp [bV]
theorem Ng {d:au} {i k:Nat} (h:Sj d i k):Sj d k i:=by obtain ⟨t,h⟩:=h;exact ⟨t,sP h⟩
theorem KU {p:Prop} (h:p:=by rw [List.length_take];omega):p:=h
section
variable {α β:Type} [DecidableEq α] [DecidableEq β]
theorem yF {l:List α} {x:α} (h:x∈l):bV (l++[x])=bV l++[((ix x (dd l):Nat):Int)]∧dd (l++[x])=dd l:=by
  have e:dd (l++[x])=dd l:=by rw [gA,if_pos ((eP l x).2 h)]
  refine ⟨?_,e⟩
  unfold bV;rw [e,List.map_append];rfl
theorem yG {l:List α} {x:α} (h:x∉l):bV (l++[x])=bV l++[(((dd l).length:Nat):Int)]∧dd (l++[x])=dd l++[x]:=by
  have hx:x∉dd l:=fun h9=>h ((eP l x).1 h9)
  have e:dd (l++[x])=dd l++[x]:=by rw [gA,if_neg hx]
  refine ⟨?_,e⟩
  unfold bV;rw [e,List.map_append]
  congr 1
  · refine List.map_congr_left fun y hy=>?_
    rw [qi [x] ((eP l y).2 hy)]
  · simp only [List.map_cons,List.map_nil];rw [o6 hx]
theorem q6 (d:α) {l:List α} {i:Nat} (h:i<l.length):(bV l).getD i 0=((ix (l.getD i d) (dd l):Nat):Int):=by
  unfold bV
  rw [List.getD_eq_getElem?_getD,List.getElem?_map,List.getElem?_eq_getElem h,List.getD_eq_getElem?_getD,List.getElem?_eq_getElem h];rfl
theorem yE (d:α) {l:List α} {i j:Nat} (hi:i<l.length) (hj:j<l.length):(bV l).getD i 0=(bV l).getD j 0↔l.getD i d=l.getD j d:=by
  rw [q6 d hi,q6 d hj]
  have m1:l.getD i d∈dd l:=(eP _ _).2 (ak hi)
  have m2:l.getD j d∈dd l:=(eP _ _).2 (ak hj)
  constructor
  · intro h;exact MC m1 m2 oz
  · intro h;rw [h]
theorem kb (d:α) {l:List α} {i:Nat} (h:i<l.length):l.take (i+1)=l.take i++[l.getD i d]:=by
  rw [List.take_add_one,List.getElem?_eq_getElem h,List.getD_eq_getElem?_getD,List.getElem?_eq_getElem h];rfl
theorem iJ (d:α) {l:List α} {i j:Nat} (h:j<i):(l.take i).getD j d=l.getD j d:=by
  rw [List.getD_eq_getElem?_getD,List.getElem?_take_of_lt h,List.getD_eq_getElem?_getD]
theorem vF (d:α) (e:β) {x:List α} {y:List β} (hl:x.length=y.length) (h:∀i j,i<x.length→j<x.length→(x.getD i d=x.getD j d↔y.getD i e=y.getD j e)):bV x=bV y∧(dd x).length=(dd y).length:=by
  have key:∀n,n≤x.length→bV (x.take n)=bV (y.take n)∧(dd (x.take n)).length=(dd (y.take n)).length:=by
    intro n
    induction n with
    | zero=>intro _;exact ⟨rfl,rfl⟩
    | succ n ih=>
      intro hn
      obtain ⟨i1,i2⟩:=ih oz
      rw [kb d (show n<x.length by omega),kb e (show n<y.length by omega)]
      have qk:x.getD n d∈x.take n↔y.getD n e∈y.take n:=by
        constructor
        · intro hm
          obtain ⟨i,hi,he⟩:=List.mem_iff_getElem.1 hm
          have KF:i<n:=by rw [List.length_take] at hi;omega
          have e1:x.getD i d=x.getD n d:=by
            rw [←he,←iJ d KF,List.getD_eq_getElem?_getD,List.getElem?_eq_getElem hi];rfl
          have:=(h i n oz oz).1 e1
          rw [←this,←iJ e KF]
          exact ak KU
        · intro hm
          obtain ⟨i,hi,he⟩:=List.mem_iff_getElem.1 hm
          have KF:i<n:=by rw [List.length_take] at hi;omega
          have e1:y.getD i e=y.getD n e:=by
            rw [←he,←iJ e KF,List.getD_eq_getElem?_getD,List.getElem?_eq_getElem hi];rfl
          have:=(h i n oz oz).2 e1
          rw [←this,←iJ d KF]
          exact ak KU
      by_cases hm:x.getD n d∈x.take n
      · obtain ⟨a1,a2⟩:=yF hm
        obtain ⟨b1,b2⟩:=yF (qk.1 hm)
        refine ⟨?_,by rw [a2,b2,i2]⟩
        rw [a1,b1,i1]
        obtain ⟨i,hi,he⟩:=List.mem_iff_getElem.1 hm
        have KF:i<n:=by rw [List.length_take] at hi;omega
        have hy:i<(y.take n).length:=by rw [List.length_take];omega
        have e1:(x.take n).getD i d=x.getD n d:=by rw [List.getD_eq_getElem?_getD,List.getElem?_eq_getElem hi];exact he
        have e2:(y.take n).getD i e=y.getD n e:=by
          rw [iJ e KF];exact (h i n oz oz).1 (by rw [←iJ d KF];exact e1)
        have q1:=q6 d hi
        have q2:=q6 e hy
        rw [e1] at q1;rw [e2] at q2
        rw [←q1,←q2,i1]
      · obtain ⟨a1,a2⟩:=yG hm
        obtain ⟨b1,b2⟩:=yG (fun h9=>hm (qk.2 h9))
        exact ⟨by rw [a1,b1,i1,i2],by rw [a2,b2,List.length_append,List.length_append,i2];rfl⟩
  have:=key x.length (Nat.le_refl _)
  rw [List.take_length,hl,List.take_length] at this;exact this
theorem sx (l:List α):(bV l).length=l.length:=by simp [bV]
theorem Jl (d:α) (l:List α):bV (bV l)=bV l∧(dd (bV l)).length=(dd l).length:=
  vF 0 d (sx l) (fun i j hi hj=>by rw [sx] at hi hj;exact yE d hi hj)
end
def zB (st:List aR) (k:Nat) (a b:Nat):Prop:=∀m,m<k→(st.getD m ay).set.has a=(st.getD m ay).set.has b
def Q4 (st:List aR) (k:Nat) (a b:Nat):Prop:=a=b∨(a<256∧b<256∧zB st k a b)
structure qA (st:List aR) (k:Nat) (c:List Int) (w:Int):Prop where
  len:c.length=259
  Zs:∀i j,i<259→j<259→(c.getD i 0=c.getD j 0↔Q4 st k i j)
  num:bV c=c
  wid:w=(((dd c).length:Nat):Int)
def DV (st:List aR) (c:List Int) (w:Int):Prop:=qA st st.length c w
theorem DV.uniq {st:List aR} {c c':List Int} {w w':Int} (h:DV st c w) (h':DV st c' w'):c=c'∧w=w':=by
  have:=vF (0:Int) (0:Int) (h.len.trans h'.len.symm) (fun i j hi hj=>by rw [h.len] at hi hj;exact (h.Zs i j hi hj).trans (h'.Zs i j hi hj).symm)
  rw [h.num,h'.num] at this
  exact ⟨this.1,by rw [h.wid,h'.wid,this.2]⟩
theorem MA {a b:List Int} (h:a.length=b.length):eJ a b=bV (a.zip b)∧ja a b=(((dd (a.zip b)).length:Nat):Int):=⟨if_pos h,if_pos h⟩
theorem qA.G7 {st:List aR} {k:Nat} {a b:List Int} (ha:a.length=259) (hb:b.length=259) (h:∀i j,i<259→j<259→((a.getD i 0=a.getD j 0∧b.getD i 0=b.getD j 0)↔Q4 st k i j)):qA st k (eJ a b) (ja a b):=by
  obtain ⟨e1,e2⟩:=MA (ha.trans hb.symm)
  have hz:(a.zip b).length=259:=by rw [List.length_zip];omega
  obtain ⟨n1,n2⟩:=Jl (0,0) (a.zip b)
  rw [e1,e2]
  refine ⟨(sx _).trans hz,fun i j hi hj=>?_,n1,by rw [n2]⟩
  rw [yE (0,0) oz oz,lG oz oz,lG oz oz,Prod.mk.injEq]
  exact h i j hi hj
theorem BU (n i:Nat):(List.replicate n (0:Int)).getD i 0=0:=by
  rw [List.getD_eq_getElem?_getD,List.getElem?_replicate];split<;>rfl
def tT (b:List Int) (k:Nat):Prop:=b.length=259∧∀i,i<259→b.getD i 0=if 256≤i∧i<256+k then ((i-256+1:Nat):Int) else 0
theorem tT.start:tT (List.replicate 259 0) 0:=⟨List.length_replicate ..,fun i hi=>by rw [if_neg oz];exact BU 259 i⟩
theorem yX {q:List Int} {i j:Nat} {b:Int} (hi:i<q.length):(q.set i b).getD j 0=if i=j then b else q.getD j 0:=by
  rw [List.getD_eq_getElem?_getD,List.getElem?_set]
  by_cases e:i=j
  · rw [if_pos e,if_pos e,if_pos hi];rfl
  · rw [if_neg e,if_neg e,←List.getD_eq_getElem?_getD]
theorem tT.step {b:List Int} {k:Nat} {v:Int} (h:tT b k) (hk:k<3) (hv:v=((k+1:Nat):Int)):tT (b.set (256+k) v) (k+1):=by
  refine ⟨by rw [List.length_set];exact h.1,fun i hi=>?_⟩
  rw [yX (by rw [h.1];omega),h.2 i hi]
  by_cases e:256+k=i
  · rw [if_pos e,if_pos oz,hv];omega
  · rw [if_neg e]
    by_cases g:256≤i∧i<256+k
    · rw [if_pos g,if_pos oz]
    · rw [if_neg g,if_neg oz]
theorem qA.base {st:List aR} {b:List Int} (h:tT b 3):qA st 0 (eJ b b) (ja b b):=by
  refine qA.G7 h.1 h.1 (fun i j hi hj=>?_)
  rw [h.2 i hi,h.2 j hj]
  constructor
  · rintro ⟨h1,_⟩
    by_cases gi:256≤i∧i<256+3<;>by_cases gj:256≤j∧j<256+3
    · rw [if_pos gi,if_pos gj] at h1;exact .inl oz
    · rw [if_pos gi,if_neg gj] at h1;omega
    · rw [if_neg gi,if_pos gj] at h1;omega
    · exact .inr ⟨by omega,by omega,fun m hm=>by omega⟩
  · rintro (rfl|⟨h1,h2,_⟩)
    · exact ⟨rfl,rfl⟩
    · rw [if_neg oz,if_neg oz];exact ⟨rfl,rfl⟩
def Q0 (s:Bs) (v:List Int) (k:Nat):Prop:=v.length=259∧∀i,i<259→v.getD i 0=if i∈(bj s).take k then 1 else 0
theorem Q0.start (s:Bs):Q0 s (List.replicate 259 0) 0:=⟨List.length_replicate ..,fun i hi=>by rw [BU,List.take_zero,if_neg (by simp)]⟩
theorem Q0.step {s:Bs} {v:List Int} {k:Nat} (h:Q0 s v k) (hk:k<(bj s).length):Q0 s (v.set ((bj s).getD k 0) 1) (k+1):=by
  have hb:=(eN.1 (ak (d:=0) hk)).1
  refine ⟨by rw [List.length_set];exact h.1,fun i hi=>?_⟩
  rw [yX (by rw [h.1];omega),h.2 i hi,kb 0 hk]
  by_cases e:(bj s).getD k 0=i
  · rw [if_pos e,if_pos (by rw [←e];simp)]
  · rw [if_neg e]
    by_cases g:i∈(bj s).take k
    · rw [if_pos g,if_pos (List.mem_append_left _ g)]
    · rw [if_neg g,if_neg]
      intro h9
      rcases List.mem_append.1 h9 with h8|h8
      · exact g h8
      · exact e (List.mem_singleton.1 h8).symm
theorem Q0.done {s:Bs} {v:List Int} {k:Nat} (h:Q0 s v k) (hk:¬k<(bj s).length):∀i,i<259→v.getD i 0=if i<256∧s.has i=true then 1 else 0:=by
  intro i hi
  rw [h.2 i hi,List.take_of_length_le oz]
  by_cases g:i∈bj s
  · rw [if_pos g,if_pos (eN.1 g)]
  · rw [if_neg g,if_neg (fun h9=>g (eN.2 h9))]
theorem qA.skip {st:List aR} {k:Nat} {c:List Int} {w:Int} (h:qA st k c w) (hs:(st.getD k ay).set=Bs.zero):qA st (k+1) c w:=
  ⟨h.len,fun i j hi hj=>(h.Zs i j hi hj).trans (by
    unfold Q4 zB
    constructor
    · rintro (e|⟨h1,h2,h3⟩)
      · exact .inl e
      · refine .inr ⟨h1,h2,fun m hm=>?_⟩
        by_cases e:m=k
        · subst e;rw [hs,dz,dz]
        · exact h3 m oz
    · rintro (e|⟨h1,h2,h3⟩)
      · exact .inl e
      · exact .inr ⟨h1,h2,fun m hm=>h3 m oz⟩),h.num,h.wid⟩
theorem qA.join {st:List aR} {k:Nat} {c v:List Int} {w:Int} (h:qA st k c w) (hl:v.length=259) (hv:∀i,i<259→v.getD i 0=if i<256∧(st.getD k ay).set.has i=true then 1 else 0):qA st (k+1) (eJ c v) (ja c v):=by
  refine qA.G7 h.len hl (fun i j hi hj=>?_)
  rw [h.Zs i j hi hj,hv i hi,hv j hj]
  unfold Q4 zB
  constructor
  · rintro ⟨e|⟨h1,h2,h3⟩,h4⟩
    · exact .inl e
    · refine .inr ⟨h1,h2,fun m hm=>?_⟩
      by_cases e:m=k
      · subst e
        rcases JR:(st.getD m ay).set.has i with _|_<;>rcases xm:(st.getD m ay).set.has j with _|_<;>simp_all
      · exact h3 m oz
  · rintro (rfl|⟨h1,h2,h3⟩)
    · exact ⟨.inl rfl,rfl⟩
    · refine ⟨.inr ⟨h1,h2,fun m hm=>h3 m oz⟩,?_⟩
      have:=h3 k oz
      simp only [h1,h2,this,true_and]
instance (st:List aR) (k a b:Nat):Decidable (Q4 st k a b):=by unfold Q4 zB;infer_instance
theorem DV.kC {st:List aR} {c:List Int} {w:Int} (h:DV st c w):1≤w∧w≤259∧∀i,i<259→0≤c.getD i 0∧c.getD i 0<w:=by
  have h1:=Nl c
  have hm:∀i,i<259→c.getD i 0∈dd c:=fun i hi=>(eP _ _).2 (ak (by rw [h.len];exact hi))
  have h0:=List.length_pos_of_mem (hm 0 oz)
  rw [h.len] at h1
  refine ⟨by rw [h.wid];omega,by rw [h.wid];omega,fun i hi=>?_⟩
  have e:=q6 (0:Int) (l:=c) (i:=i) (by rw [h.len];exact hi)
  rw [h.num] at e
  have:=oi (hm i hi)
  rw [e,h.wid];omega
def JB (s:Int):List Int:=[IntKind.u8.wrap (s.fdiv (2^(min (8:Int).toNat 64))),IntKind.u8.wrap s]
def uf (to:List Int):List Int:=to.flatMap JB
def Jz (to:List Int):ByteArray:=strOfNums (uf to)
theorem JA {to:List Int} {k:Nat} (h:k<to.length):uf (to.take k)++JB (to.getD k 0)=uf (to.take (k+1)):=by
  rw [bS 0 h];simp [uf]
theorem vS {s:Int} (h:0≤s∧s<65536):JB s=[s/256,s%256]:=by
  have e1:(2:Int)^(min (8:Int).toNat 64)=256:=by decide
  have e2:s.fdiv 256=s/256:=Int.fdiv_eq_ediv_of_nonneg _ dk
  have e3:IntKind.u8.wrap (s/256)=s/256:=by
    show (s/256)%(2^8:Int)=_
    have:(2:Int)^8=256:=by decide
    rw [this];omega
  have e4:IntKind.u8.wrap s=s%256:=by
    show s%(2^8:Int)=_
    have:(2:Int)^8=256:=by decide
    rw [this]
  unfold JB
  rw [e1,e2,e3,e4]
theorem xw {a b:List Int} (ha:∀x,x∈a→0≤x∧x<256) (hb:∀x,x∈b→0≤x∧x<256) (h:strOfNums a=strOfNums b):a=b:=by
  have h1:a.map (fun n=>UInt8.ofNat n.toNat)=b.map (fun n=>UInt8.ofNat n.toNat):=by
    have:=congrArg (fun s:ByteArray=>s.data.toList) h
    simpa [strOfNums] using this
  have hl:a.length=b.length:=by have:=congrArg List.length h1;simpa using this
  refine iE (d:=0) hl fun i hi=>?_
  have e:=congrArg (fun l:List UInt8=>(l[i]?).map UInt8.toNat) h1
  simp only [List.getElem?_map,List.getElem?_eq_getElem hi,List.getElem?_eq_getElem (hl▸hi),Option.map_some,Option.some.injEq] at e
  have xa:=ha _ (List.getElem_mem hi)
  have xb:=hb _ (List.getElem_mem (hl▸hi))
  simp only [UInt8.toNat_ofNat'] at e
  simp only [List.getD_eq_getElem?_getD,List.getElem?_eq_getElem hi,List.getElem?_eq_getElem (hl▸hi),Option.getD_some]
  omega
def SA (to:List Int):Prop:=∀x,x∈to→0≤x∧x<65536
theorem Mw {a b:List Int} (ha:SA a) (hb:SA b) (h:Jz a=Jz b):a=b:=by
  have bd:∀ {l:List Int},SA l→∀x,x∈uf l→0≤x∧x<256:=by
    intro l hl x hx
    simp only [uf,List.mem_flatMap] at hx
    obtain ⟨s,hs,hx⟩:=hx
    have hb:=hl s hs
    rw [vS hb] at hx
    simp only [List.mem_cons,List.not_mem_nil,or_false] at hx
    rcases hx with rfl|rfl<;>omega
  have h1:uf a=uf b:=xw (bd ha) (bd hb) h
  clear h
  induction a generalizing b with
  | nil=>
    cases b with
    | nil=>rfl
    | cons y b=>simp [uf,JB] at h1
  | cons x a ih=>
    cases b with
    | nil=>simp [uf,JB] at h1
    | cons y b=>
      have hx:=ha x (by simp)
      have hy:=hb y (by simp)
      simp only [uf,List.flatMap_cons,vS hx,vS hy,List.cons_append,List.nil_append,List.cons.injEq] at h1
      have e:x=y:=by omega
      rw [e,ih (fun z hz=>ha z (by simp [hz])) (fun z hz=>hb z (by simp [hz])) h1.2.2]
theorem oP {d:au} (hr:aD d=true) {q b:Int} (h0:0≤q) (h1:q<(d.acc.length:Int)) (hb:0≤b∧b<259):0≤bO d q b∧bO d q b<(d.acc.length:Int):=by
  have hs:=jX hr hb.1 hb.2
  have hi:=eA hr h0 h1 hs.2.1 hs.2.2.1
  exact ⟨hi.2.2.2.1,hi.2.2.2.2⟩
theorem vH:∀(N:Nat) (l:List Nat),l.Nodup→(∀x,x∈l→x<N)→l.length≤N
  | 0,l,_,hb=>by
    cases l with
    | nil=>simp
    | cons x l=>exact absurd (hb x (by simp)) oz
  | N+1,l,hn,hb=>by
    by_cases hN:N∈l
    · have h1:=vH N (l.erase N) (hn.erase N) (fun x hx=>by
        have h2:=(hn.mem_erase_iff).1 hx
        have h3:=hb x h2.2
        have h4:=h2.1
        omega)
      rw [List.length_erase_of_mem hN] at h1;omega
    · have h1:=vH N l hn (fun x hx=>by
        have h3:=hb x hx
        have h4:x≠N:=fun e=>hN (e▸hx)
        omega)
      omega
theorem zC {d:au} :∀(w:List Int) (k:Nat) (q:Int),(∀c,c∈w→0≤c∧c<259)→k≤w.length→ej d w k q=(w.drop k).foldl (bO d) q:=by
  intro w k q hw hk
  induction hm:w.length-k generalizing k q with
  | zero=>rw [th oz,List.drop_eq_nil_of_le oz];rfl
  | succ m ih=>
    have cF:k<w.length:=by omega
    have hc:=hw (w.getD k 0) (ak cF)
    have e:w.drop k=w[k]::w.drop (k+1):=List.drop_eq_getElem_cons cF
    have e2:w.getD k 0=w[k]:=by simp [List.getD_eq_getElem?_getD,List.getElem?_eq_getElem cF]
    rw [qR cF hc.1 hc.2,ih (k+1) _ oz oz,e,List.foldl_cons,←e2]
    rfl
theorem IY {d:au} (hr:aD d=true) {s:Int} (h0:0≤s∧s<(d.acc.length:Int)) {w:List Int} (hw:∀c,c∈w→0≤c∧c<259):nS d s w=w.foldl (bO d) s:=by
  rw [GM (by rw [hr];simp) h0.1 h0.2,zC w 0 s hw oz];simp
theorem Da {d:au} (hr:aD d=true):∀(w:List Int) (s:Int),0≤s∧s<(d.acc.length:Int)→(∀c,c∈w→0≤c∧c<259)→0≤w.foldl (bO d) s∧w.foldl (bO d) s<(d.acc.length:Int)
  | [],s,h,_=>h
  | c::w,s,h,hw=>Da hr w _ (oP hr h.1 h.2 (hw c (by simp))) (fun x hx=>hw x (by simp [hx]))
theorem fU {d:au} (hr:aD d=true) {w:List Int} (hw:∀c,c∈w→0≤c∧c<259):fb d w=d.acc.getD (w.foldl (bO d) d.start).toNat false:=by
  have hs:=(bh.1 hr).1.2.2.2.2.2.2
  have h1:=IY hr hs hw
  have h2:=Da hr w d.start hs hw
  rw [nf (by rw [h1];omega),h1]
theorem yD {α:Type} [DecidableEq α] {l:List α} {c:Nat} (h:c<(dd l).length):∃i,i<l.length∧(bV l).getD i 0=(c:Int):=by
  have hm:(dd l)[c]∈l:=(eP l _).1 (List.getElem_mem h)
  obtain ⟨i,hi,e⟩:=List.mem_iff_getElem.1 hm
  refine ⟨i,hi,?_⟩
  simp only [bV,List.getD_eq_getElem?_getD,List.getElem?_map,List.getElem?_eq_getElem hi,Option.map_some,Option.getD_some,e]
  congr 1
  have r8:=Nk l
  have key:∀(m:List α) (c:Nat) (hc:c<m.length),m.Nodup→ix m[c] m=c:=by
    intro m
    induction m with
    | nil=>intro c hc;simp at hc
    | cons y m ih=>
      intro c hc hn
      cases c with
      | zero=>simp [ix]
      | succ c=>
        have D6:c<m.length:=by simpa using hc
        have KE:=List.nodup_cons.1 hn
        simp only [List.getElem_cons_succ,ix]
        rw [if_neg (fun e=>KE.1 (by rw [←e];exact List.getElem_mem D6)),ih c D6 KE.2]
  exact key (dd l) c h r8
def okW (w:List Int):Prop:=∀c,c∈w→0≤c∧c<259
def jg (d:au) (s:Int) (w:List Int):Bool:=d.acc.getD (w.foldl (bO d) s).toNat false
def pJ (d:au) (s:Int) (e:au) (t:Int):Prop:=∀w,okW w→jg d s w=jg e t w
theorem pJ.refl (d:au) (s:Int):pJ d s d s:=fun _ _=>rfl
theorem pJ.symm {d e:au} {s t:Int} (h:pJ d s e t):pJ e t d s:=fun w hw=>(h w hw).symm
theorem pJ.trans {d e f:au} {s t u:Int} (h:pJ d s e t) (k:pJ e t f u):pJ d s f u:=fun w hw=>(h w hw).trans (k w hw)
theorem okW.tail {c:Int} {w:List Int} (h:okW (c::w)):(0≤c∧c<259)∧okW w:=⟨h c List.mem_cons_self,fun x hx=>h x (List.mem_cons_of_mem _ hx)⟩
theorem wD {d:au} (hr:aD d=true):∀ {t i k:Nat},i<d.acc.length→k<d.acc.length→Di d t i k→∃w,okW w∧jg d i w≠jg d k w
  | 0,i,k,hi,hk,h=>⟨[],fun c hc=>by simp at hc,fun e=>(show d.acc.getD i false≠d.acc.getD k false from h) (by simpa [jg] using e)⟩
  | t+1,i,k,hi,hk,h=>by
    rcases h with h|⟨c,hc,h⟩
    · exact wD hr hi hk h
    · obtain ⟨w,hw,hn⟩:=wD hr (HV hr hi hc) (HV hr hk hc) h
      rw [AL hr hi hc,AL hr hk hc] at hn
      exact ⟨c::w,fun x hx=>by rcases List.mem_cons.1 hx with rfl|hx;exact hc;exact hw x hx,hn⟩
theorem Bm {d:au} (hr:aD d=true):∀(w:List Int) {i k:Nat},i<d.acc.length→k<d.acc.length→okW w→jg d i w≠jg d k w→Sj d i k
  | [],i,k,hi,hk,hw,h=>⟨0,by simpa [jg,Di] using h⟩
  | c::w,i,k,hi,hk,hw,h=>by
    obtain ⟨hc,hw⟩:=hw.tail
    have h9:jg d ((dN d i c:Nat):Int) w≠jg d ((dN d k c:Nat):Int) w:=by rw [AL hr hi hc,AL hr hk hc];exact h
    obtain ⟨t,ht⟩:=Bm hr w (HV hr hi hc) (HV hr hk hc) hw h9
    exact ⟨t+1,.inr ⟨c,hc,ht⟩⟩
theorem HN {d:au} (hr:aD d=true) {i k:Nat} (hi:i<d.acc.length) (hk:k<d.acc.length):¬Sj d i k↔pJ d i d k:=by
  constructor
  · intro h w hw
    exact Classical.byContradiction fun hn=>h (Bm hr w hi hk hw hn)
  · rintro h ⟨t,ht⟩
    obtain ⟨w,hw,hn⟩:=wD hr hi hk ht
    exact hn (h w hw)
structure xW (R:Nat→Nat→Prop) (f:List Int) (n:Nat):Prop where
  len:f.length=n
  val:∀i,i<n→0≤f.getD i 0∧f.getD i 0≤(i:Int)∧R (f.getD i 0).toNat i∧∀k:Nat,(k:Int)<f.getD i 0→¬R k i
theorem xW.uniq {R:Nat→Nat→Prop} {f g:List Int} {n:Nat} (h:xW R f n) (k:xW R g n):f=g:=by
  refine iE (d:=0) (by rw [h.len,k.len]) fun i hi=>?_
  rw [h.len] at hi
  have h1:=h.val i hi
  have h2:=k.val i hi
  rcases Int.lt_trichotomy (f.getD i 0) (g.getD i 0) with c|c|c
  · exact absurd h1.2.2.1 (h2.2.2.2 _ oz)
  · exact c
  · exact absurd h2.2.2.1 (h1.2.2.2 _ oz)
theorem xW.start (R:Nat→Nat→Prop):xW R [] 0:=⟨rfl,fun i h=>by omega⟩
theorem xW.snoc {R:Nat→Nat→Prop} {f:List Int} {n:Nat} {x:Int} (h:xW R f n) (h0:0≤x) (h1:x≤(n:Int)) (h2:R x.toNat n) (h3:∀k:Nat,(k:Int)<x→¬R k n):xW R (f++[x]) (n+1):=by
  refine ⟨by simp [h.len],fun i hi=>?_⟩
  by_cases e:i=n
  · subst e
    have e2:(f++[x]).getD i 0=x:=by simp [List.getD_eq_getElem?_getD,List.getElem?_append,h.len]
    rw [e2];exact ⟨h0,h1,h2,h3⟩
  · have e2:(f++[x]).getD i 0=f.getD i 0:=by
      simp only [List.getD_eq_getElem?_getD,List.getElem?_append,h.len];rw [if_pos oz]
    rw [e2];exact h.val i oz
theorem xW.ex (R:Nat→Nat→Prop) (hr:∀i,R i i):∀n,∃f,xW R f n
  | 0=>⟨[],xW.start R⟩
  | n+1=>by
    obtain ⟨f,hf⟩:=xW.ex R hr n
    obtain ⟨r,h1,h2,h3⟩:=Mp (fun k=>R k n) n (hr n)
    exact ⟨f++[(r:Int)],hf.snoc oz oz (by simpa using h2) (fun k hk=>h3 k oz)⟩
structure EqR (R:Nat→Nat→Prop) (n:Nat):Prop where
  refl:∀i,i<n→R i i
  symm:∀i k,i<n→k<n→R i k→R k i
  trans:∀i j k,i<n→j<n→k<n→R i j→R j k→R i k
theorem xW.kernel {R:Nat→Nat→Prop} {f:List Int} {n:Nat} (h:xW R f n) (e:EqR R n) {i k:Nat} (hi:i<n) (hk:k<n):f.getD i 0=f.getD k 0↔R i k:=by
  have h1:=h.val i hi
  have h2:=h.val k hk
  constructor
  · intro c
    rw [←c] at h2
    exact e.trans _ _ _ hi oz hk (e.symm _ _ oz hi h1.2.2.1) h2.2.2.1
  · intro c
    rcases Int.lt_trichotomy (f.getD i 0) (f.getD k 0) with q|q|q
    · exact absurd (e.trans _ _ _ oz hi hk h1.2.2.1 c) (h2.2.2.2 _ oz)
    · exact q
    · exact absurd (e.trans _ _ _ oz hk hi h2.2.2.1 (e.symm _ _ hi hk c)) (h1.2.2.2 _ oz)
section
variable {α β:Type} [DecidableEq α] [DecidableEq β]
theorem Cu {l:List α} {x:α} (h:x∈l):bV (l++[x])=bV l++[((ix x (dd l):Nat):Int)]∧dd (l++[x])=dd l:=by
  have e:dd (l++[x])=dd l:=by rw [gA,if_pos ((eP l x).2 h)]
  exact ⟨by unfold bV;rw [e,List.map_append];rfl,e⟩
theorem CL {x:α} :∀ {l:List α},x∉l→ix x (l++[x])=l.length
  | [],_=>by simp [ix]
  | y::l,h=>by
    simp only [List.mem_cons,not_or] at h
    simp only [List.cons_append,ix,if_neg h.1,CL h.2,List.length_cons]
theorem Cv {l:List α} {x:α} (h:x∉l):bV (l++[x])=bV l++[((dd l).length:Int)]∧(dd (l++[x])).length=(dd l).length+1:=by
  have hn:x∉dd l:=fun h9=>h ((eP l x).1 h9)
  have e:dd (l++[x])=dd l++[x]:=by rw [gA,if_neg hn]
  constructor
  · unfold bV;rw [e,List.map_append]
    congr 1
    · apply List.map_congr_left
      intro y hy
      rw [qi _ ((eP l y).2 hy)]
    · simp only [List.map_cons,List.map_nil];rw [CL hn]
  · rw [e];simp
theorem q7 {l:List α} {i:Nat} {x:α} (h:l[i]?=some x):(bV l)[i]?=some ((ix x (dd l):Nat):Int):=by
  unfold bV;rw [List.getElem?_map,h];rfl
theorem vE:∀(n:Nat) (l:List α) (m:List β),l.length=n→m.length=n→(∀i k,i<n→k<n→(l[i]?=l[k]?↔m[i]?=m[k]?))→bV l=bV m∧(dd l).length=(dd m).length:=by
  intro n
  induction n with
  | zero=>
    intro l m hl hm _
    obtain rfl:=List.length_eq_zero_iff.1 hl
    obtain rfl:=List.length_eq_zero_iff.1 hm
    exact ⟨rfl,rfl⟩
  | succ n ih=>
    intro l m hl hm hk
    obtain ⟨l,x,rfl⟩:∃y x,l=y++[x]:=⟨l.dropLast,l.getLast (by intro h;rw [h] at hl;simp at hl),(List.dropLast_concat_getLast _).symm⟩
    obtain ⟨m,y,rfl⟩:∃y x,m=y++[x]:=⟨m.dropLast,m.getLast (by intro h;rw [h] at hm;simp at hm),(List.dropLast_concat_getLast _).symm⟩
    have Fz:l.length=n:=by simpa using hl
    have hm':m.length=n:=by simpa using hm
    have gl:∀i,i<n→(l++[x])[i]?=l[i]?:=fun i hi=>List.getElem?_append_left oz
    have gm:∀i,i<n→(m++[y])[i]?=m[i]?:=fun i hi=>List.getElem?_append_left oz
    have el:(l++[x])[n]?=some x:=by rw [←Fz];simp
    have em:(m++[y])[n]?=some y:=by rw [←hm'];simp
    obtain ⟨h1,h2⟩:=ih l m Fz hm' (fun i k hi tD=>by rw [←gl i hi,←gl k tD,←gm i hi,←gm k tD];exact hk i k oz oz)
    have key:∀j,j<n→(l[j]?=some x↔m[j]?=some y):=fun j hj=>by
      have:=hk j n oz oz
      rwa [gl j hj,gm j hj,el,em] at this
    by_cases hx:x∈l
    · obtain ⟨j,hj,e⟩:=List.mem_iff_getElem.1 hx
      have e1:l[j]?=some x:=by rw [List.getElem?_eq_getElem hj,e]
      have e2:=(key j oz).1 e1
      have hy:y∈m:=List.mem_of_getElem? e2
      obtain ⟨a1,a2⟩:=Cu hx
      obtain ⟨b1,b2⟩:=Cu hy
      rw [a1,b1,a2,b2,h1]
      refine ⟨?_,h2⟩
      have c1:=q7 e1
      have c2:=q7 e2
      rw [h1,c2] at c1
      rw [Option.some.inj c1]
    · have hy:y∉m:=fun h=>by
        obtain ⟨j,hj,e⟩:=List.mem_iff_getElem.1 h
        exact hx (List.mem_of_getElem? ((key j oz).2 (by rw [List.getElem?_eq_getElem hj,e])))
      obtain ⟨a1,a2⟩:=Cv hx
      obtain ⟨b1,b2⟩:=Cv hy
      rw [a1,b1,a2,b2,h1,h2]
      exact ⟨rfl,rfl⟩
theorem kT {l:List α} {i k:Nat} (hi:i<l.length) (hk:k<l.length):(bV l)[i]?=(bV l)[k]?↔l[i]?=l[k]?:=by
  rw [q7 (List.getElem?_eq_getElem hi),q7 (List.getElem?_eq_getElem hk),List.getElem?_eq_getElem hi,List.getElem?_eq_getElem hk]
  constructor
  · intro h
    have h1:=Option.some.inj h
    rw [MC ((eP _ _).2 (List.getElem_mem hi)) ((eP _ _).2 (List.getElem_mem hk)) oz]
  · intro h
    rw [Option.some.inj h]
theorem CK:∀ {l:List α} {m:List β} {x:α} {y:β},l.length=m.length→(∀i:Nat,i<l.length→(l[i]?=some x↔m[i]?=some y))→ix x l=ix y m
  | [],[],_,_,_,_=>rfl
  | a::l,b::m,x,y,hl,h=>by
    have h0:=h 0 (by simp)
    simp only [List.getElem?_cons_zero,Option.some.injEq] at h0
    simp only [ix]
    by_cases e:x=a
    · rw [if_pos e,if_pos (h0.1 e.symm).symm]
    · rw [if_neg e,if_neg (fun e2=>e (h0.2 e2.symm).symm),CK (l:=l) (m:=m) (x:=x) (y:=y) (by simpa using hl) (fun i hi=>by simpa using h (i+1) im)]
  | [],_::_,_,_,hl,_=>by simp at hl
  | _::_,[],_,_,hl,_=>by simp at hl
end
section
variable {α:Type} [DecidableEq α]
def eg (os:List α) (x:α):List α:=if x∈os then os else os++[x]
theorem DN (os:List α) (x:α):x∈eg os x:=by
  unfold eg
  by_cases h:x∈os
  · rw [if_pos h];exact h
  · rw [if_neg h];simp
theorem xd {os:List α} (h:os.Nodup) (x:α):(eg os x).Nodup:=by
  unfold eg
  by_cases hx:x∈os
  · rw [if_pos hx];exact h
  · rw [if_neg hx,List.nodup_append]
    exact ⟨h,by simp,fun a ha b hb e=>hx (by rw [List.mem_singleton.1 hb] at e;rw [←e];exact ha)⟩
theorem DP {os:List α} {p:α→Prop} (h:∀y,y∈os→p y) {x:α} (hx:p x):∀y,y∈eg os x→p y:=by
  unfold eg
  by_cases hm:x∈os
  · rw [if_pos hm];exact h
  · rw [if_neg hm];intro y hy
    rcases List.mem_append.1 hy with h1|h1
    · exact h y h1
    · rw [List.mem_singleton.1 h1];exact hx
theorem zk {os:List α} {i:Nat} (d x:α) (h:i<os.length):(eg os x).getD i d=os.getD i d:=by
  unfold eg
  by_cases hm:x∈os
  · rw [if_pos hm]
  · rw [if_neg hm,List.getD_eq_getElem?_getD,List.getElem?_append_left h,←List.getD_eq_getElem?_getD]
theorem DO (os:List α) (x:α):os.length≤(eg os x).length∧(eg os x).length≤os.length+1:=by
  unfold eg
  by_cases hm:x∈os
  · rw [if_pos hm];omega
  · rw [if_neg hm,List.length_append,List.length_singleton];omega
theorem HO:∀ {l:List α},l.Nodup→dd l=l:=by
  intro l h
  have key:∀(n:Nat) (l:List α),l.length=n→l.Nodup→dd l=l:=by
    intro n
    induction n with
    | zero=>intro l hl _;rw [List.length_eq_zero_iff.1 hl];rfl
    | succ n ih=>
      intro l hl r8
      have bm:l≠[]:=fun e=>by rw [e] at hl;cases hl
      have e:=List.dropLast_concat_getLast bm
      rw [←e] at r8 ⊢
      have XQ:=List.nodup_append.1 r8
      have hd:=ih l.dropLast (by rw [List.length_dropLast];omega) XQ.1
      rw [gA,hd,if_neg (fun h9=>XQ.2.2 _ h9 _ (by simp) rfl)]
  exact key l.length l rfl h
theorem PC {os:List α} {x:α} :ix x (eg os x)=if x∈os then ix x os else os.length:=by
  unfold eg
  by_cases h:x∈os
  · rw [if_pos h,if_pos h]
  · rw [if_neg h,if_neg h];exact o6 h
variable (tr:α→Int→α) (d:α)
def OY (at_:Nat) (p:List α×List Int) (s:Int):List α×List Int:=(eg p.1 (tr (p.1.getD at_ d) s),p.2++[((ix (tr (p.1.getD at_ d) s) (eg p.1 (tr (p.1.getD at_ d) s)):Nat):Int)])
def kL (at_:Nat) (fs:List Int) (p:List α×List Int):List α×List Int:=fs.foldl (OY tr d at_) p
def dX (fs:List Int) (x0:α):Nat→List α×List Int
  | 0=>([x0],[])
  | n+1=>kL tr d n fs (dX fs x0 n)
def xT (fs:List Int) (x0:α) (az:Int) (p:List α×List Int):Prop:=
  ∃n,(∀k,k<n→k<(dX tr d fs x0 k).1.length∧((dX tr d fs x0 k).1.length:Int)≤az)∧¬(n<(dX tr d fs x0 n).1.length∧((dX tr d fs x0 n).1.length:Int)≤az)∧p=dX tr d fs x0 n
variable {tr d}
theorem xT.uniq {fs:List Int} {x0:α} {az:Int} {p p':List α×List Int} (h:xT tr d fs x0 az p) (h':xT tr d fs x0 az p'):p=p':=by
  obtain ⟨n,h1,h2,rfl⟩:=h
  obtain ⟨n',uI,uH,rfl⟩:=h'
  rcases Nat.lt_trichotomy n n' with h|h|h
  · exact absurd (uI n h) h2
  · rw [h]
  · exact absurd (h1 n' h) uH
theorem lK {fs:List Int} {c at_:Nat} {p:List α×List Int} (h:c<fs.length):kL tr d at_ (fs.take (c+1)) p=OY tr d at_ (kL tr d at_ (fs.take c) p) (fs.getD c 0):=by
  unfold kL
  rw [kb 0 h,List.foldl_append];rfl
structure s5 (p0 p:List α×List Int) (c:Nat):Prop where
  nodup:p.1.Nodup
  Fg:p0.1.length≤p.1.length
  Xl:p.1.length≤p0.1.length+c
  nx:p.2.length=p0.2.length+c
  yB:∀i,i<p0.1.length→p.1.getD i d=p0.1.getD i d
theorem s5.step {p0 p:List α×List Int} {c at_:Nat} {s:Int} (h:s5 (d:=d) p0 p c):s5 (d:=d) p0 (OY tr d at_ p s) (c+1):=by
  have hl:=DO p.1 (tr (p.1.getD at_ d) s)
  have h1:=h.Fg;have h2:=h.Xl;have h3:=h.nx
  refine ⟨xd h.nodup _,?_,?_,?_,fun i hi=>?_⟩
  · show p0.1.length≤(eg p.1 _).length;omega
  · show (eg p.1 _).length≤p0.1.length+(c+1);omega
  · show (p.2++[_]).length=_;rw [List.length_append,List.length_singleton];omega
  · show (eg p.1 _).getD i d=_
    rw [zk d _ oz];exact h.yB i hi
theorem s5.row {p0:List α×List Int} (r8:p0.1.Nodup) (fs:List Int) (at_:Nat):∀c,c≤fs.length→s5 (d:=d) p0 (kL tr d at_ (fs.take c) p0) c
  | 0,_=>⟨r8,Nat.le_refl _,Nat.le_refl _,rfl,fun _ _=>rfl⟩
  | c+1,hc=>by rw [lK oz];exact (s5.row r8 fs at_ c oz).step
theorem gC (fs:List Int) (x0:α):∀n,(dX tr d fs x0 n).1.Nodup
  | 0=>by simp [dX]
  | n+1=>by
    have:=s5.row (tr:=tr) (d:=d) (gC fs x0 n) fs n fs.length (Nat.le_refl _)
    rw [List.take_length] at this;exact this.nodup
theorem GF (fs:List Int) (x0:α):∀n,(dX tr d fs x0 n).2.length=n*fs.length∧1≤(dX tr d fs x0 n).1.length
  | 0=>by simp [dX]
  | n+1=>by
    have h:=s5.row (tr:=tr) (d:=d) (gC (tr:=tr) (d:=d) fs x0 n) fs n fs.length (Nat.le_refl _)
    rw [List.take_length] at h
    have ih:=GF fs x0 n
    refine ⟨?_,Nat.le_trans ih.2 h.Fg⟩
    have:=h.nx
    show (kL tr d n fs (dX tr d fs x0 n)).2.length=_
    rw [this,ih.1,Nat.succ_mul]
theorem BE (fs:List Int) (x0:α):∀n,∀t,t∈(dX tr d fs x0 n).2→0≤t∧t<((dX tr d fs x0 n).1.length:Int)
  | 0=>by intro t ht;cases ht
  | n+1=>by
    have key:∀c,c≤fs.length→∀t,t∈(kL tr d n (fs.take c) (dX tr d fs x0 n)).2→0≤t∧t<((kL tr d n (fs.take c) (dX tr d fs x0 n)).1.length:Int):=by
      intro c
      induction c with
      | zero=>intro _ t ht;exact BE fs x0 n t ht
      | succ c ih=>
        intro hc t ht
        rw [lK oz] at ht ⊢
        have hl:=DO (kL tr d n (fs.take c) (dX tr d fs x0 n)).1 (tr ((kL tr d n (fs.take c) (dX tr d fs x0 n)).1.getD n d) (fs.getD c 0))
        rcases List.mem_append.1 ht with h1|h1
        · have:=ih oz t h1
          refine ⟨this.1,?_⟩
          show t<((eg _ _).length:Int);omega
        · rw [List.mem_singleton.1 h1]
          have:=oi (DN (kL tr d n (fs.take c) (dX tr d fs x0 n)).1 (tr ((kL tr d n (fs.take c) (dX tr d fs x0 n)).1.getD n d) (fs.getD c 0)))
          refine ⟨by omega,?_⟩
          show _<((eg _ _).length:Int);omega
    have:=key fs.length (Nat.le_refl _)
    rw [List.take_length] at this;exact this
theorem xT.fin {fs:List Int} {x0:α} {az:Int} {p:List α×List Int} (h:xT tr d fs x0 az p) (hm:(p.1.length:Int)≤az):p.2.length=p.1.length*fs.length∧1≤p.1.length∧p.1.Nodup∧∀t,t∈p.2→0≤t∧t<(p.1.length:Int):=by
  obtain ⟨n,h1,h2,rfl⟩:=h
  have hx:=GF (tr:=tr) (d:=d) fs x0 n
  have hge:(dX tr d fs x0 n).1.length≤n:=by
    refine Nat.le_of_not_lt fun h9=>h2 ⟨h9,hm⟩
  have hle:n≤(dX tr d fs x0 n).1.length:=by
    cases n with
    | zero=>exact Nat.zero_le _
    | succ n=>
      have:=(h1 n oz).1
      have hr:=s5.row (tr:=tr) (d:=d) (gC (tr:=tr) (d:=d) fs x0 n) fs n fs.length (Nat.le_refl _)
      rw [List.take_length] at hr
      have h3:=hr.Fg
      show n+1≤(kL tr d n fs (dX tr d fs x0 n)).1.length
      omega
  have e:(dX tr d fs x0 n).1.length=n:=by omega
  exact ⟨by rw [e];exact hx.1,hx.2,gC fs x0 n,BE fs x0 n⟩
end
noncomputable def j7 (st:List aR) (fr:List Int) (sym:Int):List Bool:=
  open Classical in if h:∃o,qB st fr sym o then Classical.choose h else []
theorem AN {st:List aR} {s0 f0 sym:Int} {fr:List Int} {o:List Bool} (hN:rU st s0 f0) (h:qB st fr sym o) (hr:∀t,t∈fr→0≤t):j7 st fr sym=o:=by
  unfold j7
  rw [dif_pos ⟨o,h⟩]
  exact (Classical.choose_spec (⟨o,h⟩:∃o,qB st fr sym o)).uniq hN h (fun t=>Iff.rfl) hr
noncomputable def jm (st:List aR) (o:List Bool) (sym:Int):List Bool:=if sym<256 then j7 st (ew st (cq o) sym.toNat) 0 else j7 st (cq o) sym
theorem KW {st:List aR} {s0 f0 sym:Int} {o o':List Bool} (hN:rU st s0 f0) (hs:sym<256) (h:qB st (ew st (cq o) sym.toNat) 0 o') (ho:o.length=st.length):jm st o sym=o':=by
  unfold jm;rw [if_pos hs]
  exact AN hN h (fun t ht=>(oO hN (fun t ht=>by have:=ko ht;rw [ho] at this;exact this) t ht).1)
theorem IE {st:List aR} {s0 f0 sym:Int} {o o':List Bool} (hN:rU st s0 f0) (hs:¬sym<256) (h:qB st (cq o) sym o'):jm st o sym=o':=by
  unfold jm;rw [if_neg hs]
  exact AN hN h (fun t ht=>(ko ht).1)
theorem Mm {a b:List Bool} (hl:a.length=b.length) (h:cq a=cq b):a=b:=by
  apply List.ext_getElem?
  intro i
  rcases Nat.lt_or_ge i a.length with hi|hi
  · have uG:i<b.length:=by omega
    have m1:((i:Nat):Int)∈cq a↔a.getD i false=true:=by
      rw [og];exact ⟨fun ⟨k,e,h9⟩=>by (obtain rfl:i=k:=by omega);exact h9,fun h9=>⟨i,rfl,h9⟩⟩
    have m2:((i:Nat):Int)∈cq b↔b.getD i false=true:=by
      rw [og];exact ⟨fun ⟨k,e,h9⟩=>by (obtain rfl:i=k:=by omega);exact h9,fun h9=>⟨i,rfl,h9⟩⟩
    rw [h] at m1
    have e1:a.getD i false=a[i]:=by rw [List.getD_eq_getElem?_getD,List.getElem?_eq_getElem hi];rfl
    have e2:b.getD i false=b[i]:=by rw [List.getD_eq_getElem?_getD,List.getElem?_eq_getElem uG];rfl
    rw [e1] at m1;rw [e2] at m2
    rw [List.getElem?_eq_getElem hi,List.getElem?_eq_getElem uG]
    congr 1
    rw [Bool.eq_iff_iff];exact m1.symm.trans m2
  · rw [List.getElem?_eq_none hi,List.getElem?_eq_none oz]
def pC (o:List Bool):ByteArray:=Jz (cq o)
theorem vR {a b:List Bool} (ha:a.length≤600) (hl:a.length=b.length) (h:pC a=pC b):a=b:=by
  refine Mm hl (Mw (fun x hx=>?_) (fun x hx=>?_) h)
  · have:=ko hx;omega
  · have:=ko hx;omega
theorem Hk {os:List (List Bool)} {x:List Bool} {n:Nat} (hn:n≤600) (ho:∀y,y∈os→y.length=n) (hx:x.length=n):pC x∈os.map pC↔x∈os:=by
  constructor
  · intro h
    obtain ⟨y,hy,e⟩:=List.mem_map.1 h
    have:=vR (by rw [ho y hy];exact hn) ((ho y hy).trans hx.symm) e
    rw [←this];exact hy
  · intro h;exact List.mem_map.2 ⟨x,h,rfl⟩
theorem yM {os:List (List Bool)} {n:Nat} (hn:n≤600) (ho:∀y,y∈os→y.length=n) (h:os.Nodup):(os.map pC).Nodup:=by
  unfold List.Nodup at h ⊢
  exact List.pairwise_map.2 (List.Pairwise.imp_of_mem (fun {x y} hx hy bm e=>bm (vR (by rw [ho x hx];exact hn) ((ho x hx).trans (ho y hy).symm) e)) h)
theorem S6 {os:List (List Bool)} {x:List Bool} {n:Nat} (hn:n≤600) (ho:∀y,y∈os→y.length=n) (hx:x.length=n):ix (pC x) (os.map pC)=ix x os:=by
  refine CK (by simp) (fun i hi=>?_)
  rw [List.length_map] at hi
  rw [List.getElem?_map,List.getElem?_eq_getElem hi]
  simp only [Option.map_some,Option.some.injEq]
  have hm:=List.getElem_mem hi
  exact ⟨fun e=>vR (by rw [ho _ hm];exact hn) ((ho _ hm).trans hx.symm) e,fun e=>by rw [e]⟩
def s7 (n:Nat) (os:List (List Bool)) (mm:List (ByteArray×Int)):Prop:=n≤600∧os.Nodup∧(∀y,y∈os→y.length=n)∧mm=sy (os.map pC)
theorem s7.some {n:Nat} {os:List (List Bool)} {mm:List (ByteArray×Int)} {x:List Bool} (h:s7 n os mm) (hx:x.length=n) (hs:(getM mm (pC x)).isSome=true):x∈os∧(getM mm (pC x)).getD 0=((ix x os:Nat):Int):=by
  obtain ⟨h1,h2,h3,rfl⟩:=h
  rw [lO] at hs ⊢
  by_cases hm:pC x∈os.map pC
  · rw [if_pos hm,HO (yM h1 h3 h2),S6 h1 h3 hx]
    exact ⟨(Hk h1 h3 hx).1 hm,rfl⟩
  · rw [if_neg hm] at hs;cases hs
theorem s7.none {n:Nat} {os:List (List Bool)} {mm:List (ByteArray×Int)} {x:List Bool} (h:s7 n os mm) (hx:x.length=n) (hs:¬(getM mm (pC x)).isSome=true):x∉os∧s7 n (os++[x]) (iC mm (pC x) ((os.length:Nat):Int)):=by
  obtain ⟨h1,h2,h3,rfl⟩:=h
  rw [lO] at hs
  have hm:pC x∉os.map pC:=fun hm=>hs (by rw [if_pos hm];rfl)
  have hxo:x∉os:=fun h9=>hm ((Hk h1 h3 hx).2 h9)
  refine ⟨hxo,h1,?_,?_,?_⟩
  · have:=xd h2 x;unfold eg at this;rwa [if_neg hxo] at this
  · have:=DP h3 hx;unfold eg at this;rwa [if_neg hxo] at this
  · have e:=Cy hm
    rw [q9,HO (yM h1 h3 h2),List.length_map] at e
    rw [e,List.map_append];rfl
theorem s7.start {n:Nat} (hn:n≤600):s7 n [] []:=⟨hn,List.nodup_nil,fun y hy=>by (cases hy),rfl⟩
theorem vq {ps:List (LR Int)} {os:List (List Bool)} (h:ps.map LR.xs=os.map cq) {i:Nat} (hi:i<os.length):(ps.getD i ae).xs=cq (os.getD i []):=by
  have hl:ps.length=os.length:=by simpa using congrArg List.length h
  have e:=congrArg (fun l=>l[i]?) h
  simp only [List.getElem?_map,List.getElem?_eq_getElem hi,List.getElem?_eq_getElem (hl▸hi),Option.map_some,Option.some.injEq] at e
  rw [List.getD_eq_getElem?_getD,List.getElem?_eq_getElem (hl▸hi),List.getD_eq_getElem?_getD,List.getElem?_eq_getElem hi]
  exact e
theorem Lr {st:List aR} {fs nx D0:List Int} {os vw:List (List Bool)} {o2:List Bool} {at9 c9:Nat} (h:kL (jm st) [] at9 (fs.take c9) (os,nx)=(vw,D0)) (hc:c9<fs.length) (ht:o2=jm st (vw.getD at9 []) (fs.getD c9 0)):kL (jm st) [] at9 (fs.take (c9+1)) (os,nx)=(eg vw o2,D0++[((ix o2 (eg vw o2):Nat):Int)]):=by
  rw [lK hc,h,ht];rfl
theorem Ls {st:List aR} {fs nx D0:List Int} {os vw:List (List Bool)} {at9 c9:Nat} (hn:os.Nodup) (h:kL (jm st) [] at9 (fs.take c9) (os,nx)=(vw,D0)) (hc:c9≤fs.length):os.length≤vw.length∧vw.length≤os.length+c9∧D0.length=nx.length+c9:=by
  have:=s5.row (tr:=jm st) (d:=[]) (p0:=(os,nx)) hn fs at9 c9 hc
  rw [h] at this
  exact ⟨this.Fg,this.Xl,this.nx⟩
theorem Lf {st:List aR} {fs nx D0:List Int} {os vw:List (List Bool)} {x0:List Bool} {at9:Nat} (h:dX (jm st) [] fs x0 at9=(os,nx)) (h2:kL (jm st) [] at9 (fs.take fs.length) (os,nx)=(vw,D0)):dX (jm st) [] fs x0 (at9+1)=(vw,D0):=by
  rw [List.take_length] at h2
  show kL (jm st) [] at9 fs (dX (jm st) [] fs x0 at9)=_
  rw [h,h2]
def Ks (st:List aR) (fs:List Int) (x0:List Bool) (az:Int) (n:Nat):Prop:=∀k,k<n→k<(dX (jm st) [] fs x0 k).1.length∧((dX (jm st) [] fs x0 k).1.length:Int)≤az
theorem Ks.next {st:List aR} {fs nx:List Int} {os:List (List Bool)} {x0:List Bool} {az:Int} {n:Nat} (h:Ks st fs x0 az n) (hs:dX (jm st) [] fs x0 n=(os,nx)) (h1:n<os.length) (h2:(os.length:Int)≤az):Ks st fs x0 az (n+1):=fun k hk=>by
  rcases Nat.lt_or_ge k n with h9|h9
  · exact h k h9
  · obtain rfl:k=n:=by omega
    rw [hs];exact ⟨h1,h2⟩
theorem Ks.fin {st:List aR} {fs nx:List Int} {os:List (List Bool)} {x0:List Bool} {az:Int} {n:Nat} (h:Ks st fs x0 az n) (hs:dX (jm st) [] fs x0 n=(os,nx)) (hn:¬(n<os.length∧(os.length:Int)≤az)):xT (jm st) [] fs x0 az (os,nx):=⟨n,h,by rw [hs];exact hn,hs.symm⟩
theorem DM (x:List Bool):eg [] x=[x]:=by simp [eg]
theorem Pq {a b A B:Nat} (h1:a≤A) (h2:b≤B):a*b≤A*B:=Nat.mul_le_mul h1 h2
theorem eG.two {v:Value} {A B:List Chunk} (h:eG v A) (h':eG v B):eG v (A++B):=fun g hg hm=>by
  obtain ⟨c,hc,MQ⟩:=gw.1 hm
  rcases List.mem_append.1 hc with h1|h1
  · exact h g hg (gw.2 ⟨c,h1,MQ⟩)
  · exact h' g hg (gw.2 ⟨c,h1,MQ⟩)
theorem qm {v:List Bool} {i j:Nat} {b:Bool} (hi:i<v.length):(v.set i b).getD j false=if i=j then b else v.getD j false:=by
  rw [List.getD_eq_getElem?_getD,List.getElem?_set]
  by_cases e:i=j
  · rw [if_pos e,if_pos e,if_pos hi];rfl
  · rw [if_neg e,if_neg e,←List.getD_eq_getElem?_getD]
structure Gq (os:List (List Bool)) (f0:Int) (v:List Bool) (i:Nat) (set:List Int) (j:Nat):Prop where
  len:v.length=os.length
  lo:∀k,k<i→v.getD k false=(os.getD k []).getD f0.toNat false
  hi:∀k,i<k→v.getD k false=false
  at_:v.getD i false=decide (f0∈set.take j)
structure Ba (os:List (List Bool)) (f0:Int) (v:List Bool) (i:Nat):Prop where
  len:v.length=os.length
  lo:∀k,k<i→v.getD k false=(os.getD k []).getD f0.toNat false
  hi:∀k,i≤k→v.getD k false=false
theorem Ba.start (os:List (List Bool)) (f0:Int) {n:Nat} (hn:n=os.length):Ba os f0 (List.replicate n false) 0:=⟨by simp [hn],fun k hk=>by omega,fun k _=>by
  rw [List.getD_eq_getElem?_getD,List.getElem?_replicate];split<;>rfl⟩
theorem Ba.go {os:List (List Bool)} {f0:Int} {v:List Bool} {i:Nat} (h:Ba os f0 v i) (set:List Int):Gq os f0 v i set 0:=⟨h.len,h.lo,fun k hk=>h.hi k oz,by rw [h.hi i (Nat.le_refl _)];simp⟩
theorem Gq.put {os:List (List Bool)} {f0:Int} {v:List Bool} {i j:Nat} {set:List Int} {b:Bool} (h:Gq os f0 v i set j) (hi:i<os.length) (hj:j<set.length) (hb:b=(v.getD i false||decide (set.getD j 0=f0))):Gq os f0 (v.set i b) i set (j+1):=by
  have hl:=h.len
  refine ⟨by rw [List.length_set];exact hl,fun k hk=>?_,fun k hk=>?_,?_⟩
  · rw [qm oz,if_neg oz];exact h.lo k hk
  · rw [qm oz,if_neg oz];exact h.hi k hk
  · rw [qm oz,if_pos rfl,hb,h.at_,kb 0 hj,Bool.eq_iff_iff]
    simp only [Bool.or_eq_true,decide_eq_true_eq,List.mem_append,List.mem_singleton]
    exact ⟨fun h9=>h9.imp id Eq.symm,fun h9=>h9.imp id Eq.symm⟩
theorem Gq.done {os:List (List Bool)} {f0:Int} {v:List Bool} {i j:Nat} {set:List Int} (h:Gq os f0 v i set j) (hj:¬j<set.length) (hs:set=cq (os.getD i [])) (h0:0≤f0):Ba os f0 v (i+1):=by
  refine ⟨h.len,fun k hk=>?_,fun k hk=>h.hi k oz⟩
  rcases Nat.lt_or_ge k i with h1|h1
  · exact h.lo k h1
  · obtain rfl:k=i:=by omega
    rw [h.at_,List.take_of_length_le oz,hs,Bool.eq_iff_iff,decide_eq_true_eq,og]
    exact ⟨fun ⟨q,e,h9⟩=>by rw [e,Int.toNat_natCast];exact h9,fun h9=>⟨f0.toNat,by omega,h9⟩⟩
theorem Ba.fin {os:List (List Bool)} {f0:Int} {v:List Bool} {i:Nat} (h:Ba os f0 v i) (hi:os.length≤i):v=os.map (·.getD f0.toNat false):=by
  have hl:=h.len
  apply List.ext_getElem?
  intro k
  rcases Nat.lt_or_ge k os.length with h1|h1
  · have e:=h.lo k oz
    have h2:k<v.length:=by omega
    have x1:v.getD k false=v[k]:=by rw [List.getD_eq_getElem?_getD,List.getElem?_eq_getElem h2];rfl
    have x2:os.getD k []=os[k]:=by rw [List.getD_eq_getElem?_getD,List.getElem?_eq_getElem h1];rfl
    rw [x1,x2] at e
    rw [List.getElem?_eq_getElem h2,List.getElem?_map,List.getElem?_eq_getElem h1]
    exact congrArg some e
  · rw [List.getElem?_eq_none oz,List.getElem?_map,List.getElem?_eq_none h1];rfl
def pG (st:List aR) (s0 f0 az:Int) (d:au) (er:Int):Prop:=
  ∃cls w os nx,DV st cls w∧xT (jm st) [] (aE cls w) (j7 st [s0] 0) az (os,nx)∧
    (((os.length:Int)≤az∧er=0∧d=⟨cls,w,0,nx,os.map (·.getD f0.toNat false)⟩)∨((os.length:Int)>az∧er=5∧d=⟨[],0,0,[],[]⟩))
theorem pG.uniq {st:List aR} {s0 f0 az:Int} {d d':au} {er YR:Int} (h:pG st s0 f0 az d er) (h':pG st s0 f0 az d' YR):d=d'∧er=YR:=by
  obtain ⟨cls,w,os,nx,h1,h2,h3⟩:=h
  obtain ⟨ajH,w',os',nx',uI,uH,P7⟩:=h'
  obtain ⟨rfl,rfl⟩:=h1.uniq uI
  have:=h2.uniq uH
  simp only [Prod.mk.injEq] at this
  obtain ⟨rfl,rfl⟩:=this
  rcases h3 with ⟨a,rfl,rfl⟩|⟨a,rfl,rfl⟩<;>rcases P7 with ⟨b,rfl,rfl⟩|⟨b,rfl,rfl⟩<;>first|exact ⟨rfl,rfl⟩|omega
theorem kZ {st:List aR} {c:List Int} {w:Int} (h:DV st c w):(aE c w).length=w.toNat∧∀t,t∈aE c w→0≤t∧t<259:=by
  have hw:=h.kC
  refine ⟨by rw [jc];omega,fun t ht=>?_⟩
  unfold aE at ht
  obtain ⟨k,hk,rfl⟩:=List.mem_map.1 ht
  rw [List.mem_range] at hk
  have hkw:(k:Int)<w:=by omega
  have hd:k<(dd c).length:=by have:=h.wid;omega
  obtain ⟨i,hi,e⟩:=yD hd
  rw [h.num] at e
  have hm:((k:Nat):Int)∈c:=by rw [←e];exact ak hi
  unfold ie;rw [if_pos hm]
  have:=oi hm
  rw [h.len] at this;omega
theorem pG.right {st:List aR} {s0 f0 az:Int} {d:au} (h:pG st s0 f0 az d 0) (hm:az≤4096):aD d=true:=by
  obtain ⟨cls,w,os,nx,h1,h2,h3⟩:=h
  rcases h3 with ⟨a,_,rfl⟩|⟨a,e,_⟩
  · have hw:=h1.kC
    have hf:=h2.fin a
    have hl:=(kZ h1).1
    have Tz:1≤os.length:=hf.2.1
    have Fy:os.length≤4096:=by have a':(os.length:Int)≤az:=a;omega
    have VM:(os.map (fun x:List Bool=>x.getD f0.toNat false)).length=os.length:=List.length_map ..
    refine bh.2 ⟨⟨h1.len,hw.1,hw.2.1,?_,?_,?_,Int.le_refl _,?_⟩,?_,?_⟩
    · exact Nat.le_trans Tz (Nat.le_of_eq VM.symm)
    · exact Nat.le_trans (Nat.le_of_eq VM) Fy
    · simp only [List.length_map]
      rw [hf.1,hl,Int.natCast_mul,Int.toNat_of_nonneg oz]
    · show (0:Int)<((os.map (fun x:List Bool=>x.getD f0.toNat false)).length:Int);rw [VM];omega
    · unfold fR;rw [List.all_eq_true]
      intro x hx
      obtain ⟨i,hi,e⟩:=List.mem_iff_getElem.1 hx
      have uG:i<cls.length:=hi
      have KF:i<259:=by have:=h1.len;omega
      have:=hw.2.2 i KF
      have x1:cls.getD i 0=cls[i]:=by rw [List.getD_eq_getElem?_getD,List.getElem?_eq_getElem hi];rfl
      rw [x1,e] at this
      exact decide_eq_true this
    · unfold fR;rw [List.all_eq_true]
      intro x hx
      simp only [List.length_map]
      exact decide_eq_true (hf.2.2.2 x hx)
  · cases e
theorem SV {d:au} (hr:aD d=true) {s t:Int} :t∈Jk d s↔∃c:Int,(0≤c∧c<259)∧bO d s c=t:=by
  have h1:=(bh.1 hr).1.1
  rw [Pl,h1]
  constructor
  · rintro ⟨i,hi,e⟩;exact ⟨(i:Int),by omega,by unfold bO;rw [Int.toNat_natCast];exact e⟩
  · rintro ⟨c,hc,e⟩;exact ⟨c.toNat,by omega,e⟩
theorem To.sym {d:au} (hr:aD d=true) {s t c:Int} (h:To d s t) (hc:0≤c∧c<259):To d s (bO d t c):=h.snoc ((SV hr).2 ⟨c,hc,rfl⟩)
def ZJ (d:au) (k i:Nat):Prop:=pJ d (k:Int) d (i:Int)
def Ko (d:au) (k sym:Nat):Prop:=∀s:Nat,s<d.acc.length→To d d.start (s:Int)→pJ d (bO d (s:Int) (k:Int)) d (bO d (s:Int) (sym:Int))
theorem Lh (d:au) (n:Nat):EqR (ZJ d) n:=⟨fun i _=>pJ.refl d i,fun i k _ _ h=>pJ.symm h,fun i j k _ _ _ h1 h2=>pJ.trans h1 h2⟩
theorem GC (d:au) (n:Nat):EqR (Ko d) n:=⟨fun i _ s _ _=>pJ.refl d _,fun i k _ _ h s h1 h2=>(h s h1 h2).symm,fun i j k _ _ _ h1 h2 s h3 h4=>(h1 s h3 h4).trans (h2 s h3 h4)⟩
noncomputable def pF (d:au):List Int:=Classical.choose (xW.ex (ZJ d) (fun i=>pJ.refl d i) d.acc.length)
noncomputable def c8 (d:au):List Int:=Classical.choose (xW.ex (Ko d) (fun i s _ _=>pJ.refl d _) 259)
theorem wY (d:au):xW (ZJ d) (pF d) d.acc.length:=Classical.choose_spec (xW.ex (ZJ d) (fun i=>pJ.refl d i) d.acc.length)
theorem jq (d:au):xW (Ko d) (c8 d) 259:=Classical.choose_spec (xW.ex (Ko d) (fun i s _ _=>pJ.refl d _) 259)
noncomputable def xS (d:au):List Int:=bV (pF d)
theorem DE (d:au):(xS d).length=d.acc.length:=by rw [xS,hO,(wY d).len]
def fG (bl:List Int) (s:Int):Int:=bl.getD s.toNat 0
def x3 (d:au) (bl:List Int):Prop:=∀s t:Int,0≤s∧s<(d.acc.length:Int)→0≤t∧t<(d.acc.length:Int)→(fG bl s=fG bl t↔pJ d s d t)
theorem N6 (d:au):x3 d (xS d):=fun s t hs ht=>by
  have hl:=(wY d).len
  have h1:=kT (l:=pF d) (i:=s.toNat) (k:=t.toNat) oz oz
  have h2:=(wY d).kernel (Lh d _) (i:=s.toNat) (k:=t.toNat) oz oz
  unfold ZJ at h2
  rw [Int.toNat_of_nonneg hs.1,Int.toNat_of_nonneg ht.1] at h2
  rw [←h2]
  have e1:s.toNat<(bV (pF d)).length:=by rw [hO];omega
  have e2:t.toNat<(bV (pF d)).length:=by rw [hO];omega
  unfold fG xS
  simp only [List.getD_eq_getElem?_getD,List.getElem?_eq_getElem e1,List.getElem?_eq_getElem e2,List.getElem?_eq_getElem (show s.toNat<(pF d).length by omega),List.getElem?_eq_getElem (show t.toNat<(pF d).length by omega),Option.getD_some,Option.some.injEq] at h1 ⊢
  exact h1
def fW (d:au) (bl:List Int) (s:Int) (p:List Int×List Int) (sym:Int):List Int×List Int:=
  if fG bl (bO d s sym)∈p.1.map (fG bl) then (p.1,p.2++[((ix (fG bl (bO d s sym)) (p.1.map (fG bl)):Nat):Int)])
  else (p.1++[bO d s sym],p.2++[(p.1.length:Int)])
def cz (d:au) (bl fs:List Int):Nat→Nat→List Int×List Int→List Int×List Int
  | 0,_,p=>p
  | f+1,at_,p=>if at_<p.1.length then cz d bl fs f (at_+1) (fs.foldl (fW d bl (p.1.getD at_ 0)) p) else p
theorem E4 {d:au} {bl fs:List Int} {F at_:Nat} {p:List Int×List Int} (hF:at_<F) (h:at_<p.1.length):
    cz d bl fs (F-at_) at_ p=cz d bl fs (F-(at_+1)) (at_+1) (fs.foldl (fW d bl (p.1.getD at_ 0)) p):=by
  have e:F-at_=(F-(at_+1))+1:=by omega
  rw [e,cz,if_pos h]
theorem Cs {d:au} {bl fs:List Int} {F at_:Nat} {p:List Int×List Int} (h:¬at_<p.1.length):cz d bl fs F at_ p=p:=by
  cases F with
  | zero=>rfl
  | succ F=>rw [cz,if_neg h]
theorem Mh (d:au) (bl:List Int) (s:Int) (p:List Int×List Int) (c:Int):∃r,(fW d bl s p c).1=p.1++r:=by
  unfold fW;split
  · exact ⟨[],by simp⟩
  · exact ⟨_,rfl⟩
theorem lT {l r:List Int} {i:Nat} (h:i<l.length):(l++r).getD i 0=l.getD i 0:=by
  simp only [List.getD_eq_getElem?_getD,List.getElem?_append_left h]
theorem o7 {l:List Int} {x:Int} :(l++[x]).getD l.length 0=x:=by simp [List.getD_eq_getElem?_getD]
structure pg (d:au) (fs:List Int) (p:List Int×List Int) (at_ j:Nat):Prop where
  pos:0<p.1.length
  head:p.1.getD 0 0=d.start
  kC:∀i,i<p.1.length→(0≤p.1.getD i 0∧p.1.getD i 0<(d.acc.length:Int))∧To d d.start (p.1.getD i 0)
  nd:∀i k,i<k→k<p.1.length→¬pJ d (p.1.getD i 0) d (p.1.getD k 0)
  Cz:p.2.length=at_*fs.length+j
  nx:∀m,m<p.2.length→(0≤p.2.getD m 0∧p.2.getD m 0<(p.1.length:Int))∧m/fs.length<p.1.length∧pJ d (p.1.getD (p.2.getD m 0).toNat 0) d (bO d (p.1.getD (m/fs.length) 0) (fs.getD (m%fs.length) 0))
  met:∀i,0<i→i<p.1.length→∃m,m<p.2.length∧m/fs.length<i∧p.2.getD m 0=(i:Int)
theorem pg.start {d:au} (hr:aD d=true) (fs:List Int):pg d fs ([d.start],[]) 0 0:=by
  have hs:=(bh.1 hr).1.2.2.2.2.2.2
  refine ⟨by simp,rfl,fun i hi=>?_,fun i k h1 h2=>?_,by simp,fun m hm=>by simp at hm,fun i h1 h2=>?_⟩
  · have:i=0:=by simp at hi;exact hi
    subst this;exact ⟨hs,.refl _⟩
  · simp at h2;omega
  · simp at h2;omega
theorem pg.bound {d:au} {fs:List Int} {p:List Int×List Int} {at_ j:Nat} (h:pg d fs p at_ j):p.1.length≤d.acc.length:=by
  have key:=vH d.acc.length (p.1.map Int.toNat) ?_ ?_
  · simpa using key
  · rw [List.nodup_iff_pairwise_ne,List.pairwise_iff_getElem]
    intro i k hi hk OD e
    simp only [List.length_map] at hi hk
    simp only [List.getElem_map] at e
    have r1:=(h.kC i hi).1
    have r2:=(h.kC k hk).1
    refine h.nd i k OD hk ?_
    have e1:p.1.getD i 0=p.1[i]:=by simp [List.getD_eq_getElem?_getD,List.getElem?_eq_getElem hi]
    have e2:p.1.getD k 0=p.1[k]:=by simp [List.getD_eq_getElem?_getD,List.getElem?_eq_getElem hk]
    rw [e1] at r1 ⊢
    rw [e2] at r2 ⊢
    have:p.1[i]=p.1[k]:=by omega
    rw [this];exact pJ.refl _ _
  · intro x hx
    obtain ⟨y,hy,rfl⟩:=List.mem_map.1 hx
    obtain ⟨i,hi,rfl⟩:=List.mem_iff_getElem.1 hy
    have r1:=(h.kC i hi).1
    have e1:p.1.getD i 0=p.1[i]:=by simp [List.getD_eq_getElem?_getD,List.getElem?_eq_getElem hi]
    rw [e1] at r1;omega
theorem YS {a W j:Nat} (h:j<W):(a*W+j)/W=a∧(a*W+j)%W=j:=by
  constructor
  · rw [Nat.mul_comm,Nat.mul_add_div oz,Nat.div_eq_of_lt h];omega
  · rw [Nat.mul_comm,Nat.mul_add_mod,Nat.mod_eq_of_lt h]
theorem Me {d:au} {bl:List Int} (hb:x3 d bl) {l:List Int} (hl:∀i,i<l.length→0≤l.getD i 0∧l.getD i 0<(d.acc.length:Int)) {t:Int} (ht:0≤t∧t<(d.acc.length:Int)):
    (fG bl t∈l.map (fG bl)↔∃i,i<l.length∧pJ d t d (l.getD i 0))∧∀i,i<l.length→((l.map (fG bl))[i]?=some (fG bl t)↔pJ d (l.getD i 0) d t):=by
  have key:∀i,i<l.length→((l.map (fG bl))[i]?=some (fG bl t)↔pJ d (l.getD i 0) d t):=fun i hi=>by
    have e1:l.getD i 0=l[i]:=by simp [List.getD_eq_getElem?_getD,List.getElem?_eq_getElem hi]
    have h1:=hl i hi
    rw [e1] at h1 ⊢
    rw [List.getElem?_map,List.getElem?_eq_getElem hi,Option.map_some,Option.some.injEq,hb _ _ h1 ht]
  refine ⟨⟨fun h=>?_,fun ⟨i,hi,h⟩=>?_⟩,key⟩
  · obtain ⟨i,hi,e⟩:=List.mem_iff_getElem?.1 h|>fun ⟨i,e⟩=>(⟨i,by have:=(List.getElem?_eq_some_iff.1 e).1;simpa using this,e⟩:∃i,i<l.length∧(l.map (fG bl))[i]?=some (fG bl t))
    exact ⟨i,hi,((key i hi).1 e).symm⟩
  · exact List.mem_of_getElem? ((key i hi).2 h.symm)
theorem pg.step {d:au} (hr:aD d=true) {bl fs:List Int} (hb:x3 d bl) {p:List Int×List Int} {at_ j:Nat} {s:Int} (h:pg d fs p at_ j) (r9:at_<p.1.length) (hj:j<fs.length) (hc:0≤fs.getD j 0∧fs.getD j 0<259) (hs:s=p.1.getD at_ 0):
    pg d fs (fW d bl s p (fs.getD j 0)) at_ (j+1):=by
  subst hs
  have hsr:=h.kC at_ r9
  have ht:=oP hr hsr.1.1 hsr.1.2 hc
  have RF:=hsr.2.sym hr hc
  have hm:=Me hb (l:=p.1) (fun i hi=>(h.kC i hi).1) ht
  have P1:=YS (a:=at_) hj
  rw [←h.Cz] at P1
  unfold fW
  split
  · rename_i Bd
    have cF:=oi Bd
    rw [List.length_map] at cF
    have X0:=mK (d:=0) Bd
    have hL:pJ d (p.1.getD (ix (fG bl (bO d (p.1.getD at_ 0) (fs.getD j 0))) (p.1.map (fG bl))) 0) d (bO d (p.1.getD at_ 0) (fs.getD j 0)):=by
      refine (hm.2 _ cF).1 ?_
      rw [List.getD_eq_getElem?_getD,List.getElem?_eq_getElem (by rw [List.length_map];exact cF),Option.getD_some] at X0
      rw [List.getElem?_eq_getElem (by rw [List.length_map];exact cF),X0]
    refine ⟨h.pos,h.head,h.kC,h.nd,by simp [h.Cz];omega,fun m Fy=>?_,fun i h1 h2=>?_⟩
    · simp only [List.length_append,List.length_singleton] at Fy
      by_cases e:m<p.2.length
      · simp only [lT e];exact h.nx m e
      · have e2:m=p.2.length:=by omega
        subst e2
        simp only [o7,P1.1,P1.2]
        exact ⟨by omega,r9,by rw [Int.toNat_natCast];exact hL⟩
    · obtain ⟨m,q1,q2,q3⟩:=h.met i h1 h2
      exact ⟨m,by simp;omega,q2,by simp only [lT q1];exact q3⟩
  · rename_i Bd
    have hg:∀i,i<p.1.length→(p.1++[bO d (p.1.getD at_ 0) (fs.getD j 0)]).getD i 0=p.1.getD i 0:=fun i hi=>lT hi
    have hgl:(p.1++[bO d (p.1.getD at_ 0) (fs.getD j 0)]).getD p.1.length 0=bO d (p.1.getD at_ 0) (fs.getD j 0):=o7
    refine ⟨by simp,by simp only [hg 0 h.pos];exact h.head,fun i hi=>?_,fun i k h1 h2=>?_,by simp [h.Cz];omega,fun m Fy=>?_,fun i h1 h2=>?_⟩
    · simp only [List.length_append,List.length_singleton] at hi
      by_cases e:i<p.1.length
      · simp only [hg i e];exact h.kC i e
      · have e2:i=p.1.length:=by omega
        subst e2
        simp only [hgl];exact ⟨ht,RF⟩
    · simp only [List.length_append,List.length_singleton] at h2
      by_cases e:k<p.1.length
      · simp only [hg i oz,hg k e];exact h.nd i k h1 e
      · have e2:k=p.1.length:=by omega
        subst e2
        simp only [hg i h1,hgl]
        exact fun h9=>Bd (hm.1.2 ⟨i,h1,h9.symm⟩)
    · simp only [List.length_append,List.length_singleton] at Fy ⊢
      by_cases e:m<p.2.length
      · have q:=h.nx m e
        simp only [lT e,hg _ q.2.1,hg _ (show (p.2.getD m 0).toNat<p.1.length by omega)]
        exact ⟨by omega,by omega,q.2.2⟩
      · have e2:m=p.2.length:=by omega
        subst e2
        simp only [o7,P1.1,P1.2,Int.toNat_natCast,hgl,hg at_ r9]
        exact ⟨by omega,by omega,pJ.refl _ _⟩
    · simp only [List.length_append,List.length_singleton] at h2 ⊢
      by_cases e:i<p.1.length
      · obtain ⟨m,q1,q2,q3⟩:=h.met i h1 e
        exact ⟨m,by omega,q2,by simp only [lT q1];exact q3⟩
      · have e2:i=p.1.length:=by omega
        subst e2
        exact ⟨p.2.length,by omega,by rw [P1.1];exact r9,o7⟩
theorem lr {d:au} {bl fs:List Int} {s:Int} {p:List Int×List Int} {j:Nat} (h:j<fs.length):fW d bl s ((fs.take j).foldl (fW d bl s) p) (fs.getD j 0)=(fs.take (j+1)).foldl (fW d bl s) p:=by
  rw [bS 0 h,List.foldl_append];rfl
theorem jK (d:au) (bl:List Int) (s:Int):∀(fs:List Int) (p:List Int×List Int),∃r,(fs.foldl (fW d bl s) p).1=p.1++r
  | [],p=>⟨[],by simp⟩
  | c::fs,p=>by
    obtain ⟨r,h⟩:=Mh d bl s p c
    obtain ⟨r2,h2⟩:=jK d bl s fs (fW d bl s p c)
    exact ⟨r++r2,by rw [List.foldl_cons,h2,h,List.append_assoc]⟩
theorem pg.upto {d:au} (hr:aD d=true) {bl fs:List Int} (hb:x3 d bl) (CU:∀j,j<fs.length→0≤fs.getD j 0∧fs.getD j 0<259) {p:List Int×List Int} {at_:Nat} (h:pg d fs p at_ 0) (r9:at_<p.1.length):
    ∀j,j≤fs.length→pg d fs ((fs.take j).foldl (fW d bl (p.1.getD at_ 0)) p) at_ j
  | 0,_=>h
  | j+1,hj=>by
    have ih:=pg.upto hr hb CU h r9 j oz
    rw [←lr oz]
    obtain ⟨r,e⟩:=jK d bl (p.1.getD at_ 0) (fs.take j) p
    exact ih.step hr hb (by rw [e,List.length_append];omega) oz (CU j oz) (by rw [e,lT r9])
theorem pg.next {d:au} {fs:List Int} {p:List Int×List Int} {at_ j:Nat} (h:pg d fs p at_ j) (hj:j=fs.length):pg d fs p (at_+1) 0:=
  ⟨h.pos,h.head,h.kC,h.nd,by rw [h.Cz,hj,Nat.add_mul,Nat.one_mul,Nat.add_zero],h.nx,h.met⟩
theorem pg.fold {d:au} (hr:aD d=true) {bl fs:List Int} (hb:x3 d bl) (CU:∀j,j<fs.length→0≤fs.getD j 0∧fs.getD j 0<259) {p:List Int×List Int} {at_:Nat} (h:pg d fs p at_ 0) (r9:at_<p.1.length):
    pg d fs (fs.foldl (fW d bl (p.1.getD at_ 0)) p) (at_+1) 0:=by
  have h1:=pg.upto hr hb CU h r9 fs.length (Nat.le_refl _)
  rw [List.take_length] at h1
  exact h1.next rfl
theorem pg.loop {d:au} (hr:aD d=true) {bl fs:List Int} (hb:x3 d bl) (CU:∀j,j<fs.length→0≤fs.getD j 0∧fs.getD j 0<259):∀(F at_:Nat) (p:List Int×List Int),pg d fs p at_ 0→at_≤p.1.length→d.acc.length<F+at_→
    pg d fs (cz d bl fs F at_ p) (cz d bl fs F at_ p).1.length 0
  | 0,at_,p,h,h1,h2=>by have:=h.bound;omega
  | F+1,at_,p,h,h1,h2=>by
    rw [cz]
    split
    · rename_i r9
      have h3:=h.fold hr hb CU r9
      obtain ⟨r,e⟩:=jK d bl (p.1.getD at_ 0) fs p
      exact pg.loop hr hb CU F (at_+1) _ h3 (by rw [e,List.length_append];omega) oz
    · rename_i r9
      have:at_=p.1.length:=by omega
      subst this;exact h
noncomputable def eE (d:au):List Int:=aE (bV (c8 d)) ((dd (c8 d)).length:Int)
noncomputable def jH (d:au):List Int×List Int:=cz d (xS d) (eE d) 4097 0 ([d.start],[])
noncomputable def dZ (d:au):au:=⟨bV (c8 d),((dd (c8 d)).length:Int),0,(jH d).2,(jH d).1.map fun s=>d.acc.getD s.toNat false⟩
theorem ux (d:au):1≤(dd (c8 d)).length∧(dd (c8 d)).length≤259:=by
  have h1:=Nl (c8 d)
  rw [(jq d).len] at h1
  refine ⟨?_,h1⟩
  have h2:(c8 d).getD 0 0∈c8 d:=ak (by rw [(jq d).len];omega)
  exact List.length_pos_of_mem ((eP _ _).2 h2)
theorem mN (d:au):(eE d).length=(dd (c8 d)).length:=by
  have:=ux d
  unfold eE;rw [jc];omega
theorem sK (d:au) {c:Nat} (hc:c<(dd (c8 d)).length):0≤(eE d).getD c 0∧(eE d).getD c 0<259∧(bV (c8 d)).getD ((eE d).getD c 0).toNat 0=(c:Int):=by
  have hw:=ux d
  obtain ⟨i,hi,e⟩:=yD hc
  have hl:(bV (c8 d)).length=259:=by rw [hO,(jq d).len]
  have hm:(c:Int)∈bV (c8 d):=by rw [←e];exact ak (by rw [hO];exact hi)
  have cF:=oi hm
  rw [eE,tH oz,ie,if_pos hm]
  exact ⟨by omega,by omega,by rw [Int.toNat_natCast];exact mK hm⟩
theorem yU (d:au):∀j,j<(eE d).length→0≤(eE d).getD j 0∧(eE d).getD j 0<259:=fun j hj=>by
  rw [mN] at hj
  have:=sK d hj
  exact ⟨this.1,this.2.1⟩
theorem zx (d:au) {sym:Nat} (hs:sym<259):0≤(bV (c8 d)).getD sym 0∧(bV (c8 d)).getD sym 0<((dd (c8 d)).length:Int):=by
  have hl:=(jq d).len
  rw [Jm oz]
  have:=oi ((eP (c8 d) _).2 (ak (d:=0) (show sym<(c8 d).length by omega)))
  omega
theorem FC (d:au) {sym:Nat} (hs:sym<259):Ko d ((eE d).getD ((bV (c8 d)).getD sym 0).toNat 0).toNat sym:=by
  have hb:=zx d hs
  have hl:=(jq d).len
  have hh:=sK d (c:=((bV (c8 d)).getD sym 0).toNat) oz
  rw [Int.toNat_of_nonneg hb.1] at hh
  refine ((jq d).kernel (GC d 259) oz hs).1 ?_
  have h1:=kT (l:=c8 d) (i:=((eE d).getD ((bV (c8 d)).getD sym 0).toNat 0).toNat) (k:=sym) oz oz
  have l1:((eE d).getD ((bV (c8 d)).getD sym 0).toNat 0).toNat<(bV (c8 d)).length:=by rw [hO];omega
  have l2:sym<(bV (c8 d)).length:=by rw [hO];omega
  have h2:(bV (c8 d))[((eE d).getD ((bV (c8 d)).getD sym 0).toNat 0).toNat]?=(bV (c8 d))[sym]?:=by
    rw [List.getElem?_eq_getElem l1,List.getElem?_eq_getElem l2]
    have h3:=hh.2.2
    rw [List.getD_eq_getElem?_getD,List.getElem?_eq_getElem l1,Option.getD_some] at h3
    rw [h3,List.getD_eq_getElem?_getD,List.getElem?_eq_getElem l2,Option.getD_some]
  have h4:=h1.1 h2
  have gd:∀k,(c8 d).getD k 0=((c8 d)[k]?).getD 0:=fun k=>List.getD_eq_getElem?_getD ..
  rw [gd,gd,h4]
theorem zU {d:au} (hr:aD d=true):pg d (eE d) (jH d) (jH d).1.length 0:=by
  have hn:=(bh.1 hr).1.2.2.2.2.1
  exact pg.loop hr (N6 d) (yU d) 4097 0 _ (pg.start hr _) (by simp) oz
theorem Fi {d:au} (hr:aD d=true):(dZ d).acc.length=(jH d).1.length∧(dZ d).acc.length≤d.acc.length∧1≤(dZ d).acc.length:=by
  have h:=zU hr
  have e:(dZ d).acc.length=(jH d).1.length:=by simp [dZ]
  exact ⟨e,by rw [e];exact h.bound,by rw [e];exact h.pos⟩
theorem Ae {d:au} (hr:aD d=true):aD (dZ d)=true:=by
  have h:=zU hr
  have hl:=Fi hr
  have hw:=ux d
  have hn:=(bh.1 hr).1.2.2.2.2.1
  refine bh.2 ⟨⟨?_,?_,?_,?_,?_,?_,?_,?_⟩,?_,?_⟩
  · show (bV (c8 d)).length=259;rw [hO,(jq d).len]
  · show (1:Int)≤((dd (c8 d)).length:Int);omega
  · show ((dd (c8 d)).length:Int)≤259;omega
  · exact hl.2.2
  · omega
  · show ((jH d).2.length:Int)=_
    rw [hl.1,h.Cz,mN]
    show _=(((jH d).1.length:Nat):Int)*(((dd (c8 d)).length:Nat):Int)
    rw [←Int.natCast_mul];simp
  · show (0:Int)≤0;omega
  · show (0:Int)<_;omega
  · exact x7 fun i hi=>zx d (by have h1:i<(bV (c8 d)).length:=hi;rw [hO,(jq d).len] at h1;exact h1)
  · refine x7 fun i hi=>?_
    have h1:=(h.nx i hi).1
    rw [hl.1]
    exact h1
theorem CC {d:au} (hr:aD d=true) {i:Nat} (hi:i<(jH d).1.length) {c:Int} (hc:0≤c∧c<259):
    (0≤bO (dZ d) (i:Int) c∧bO (dZ d) (i:Int) c<((jH d).1.length:Int))∧pJ d ((jH d).1.getD (bO (dZ d) (i:Int) c).toNat 0) d (bO d ((jH d).1.getD i 0) c):=by
  have h:=zU hr
  have hb:=zx d (sym:=c.toNat) oz
  have hs:=FC d (sym:=c.toNat) oz
  have hlh:=mN d
  have e1:bO (dZ d) (i:Int) c=(jH d).2.getD (i*(eE d).length+((bV (c8 d)).getD c.toNat 0).toNat) 0:=by
    unfold bO
    show (jH d).2.getD (((i:Nat):Int)*((dd (c8 d)).length:Int)+(bV (c8 d)).getD c.toNat 0).toNat 0=_
    congr 1
    rw [hlh]
    have h1:(((i:Nat):Int)*((dd (c8 d)).length:Int))=((i*(dd (c8 d)).length:Nat):Int):=by rw [Int.natCast_mul]
    omega
  have cF:((bV (c8 d)).getD c.toNat 0).toNat<(eE d).length:=by omega
  have hm:i*(eE d).length+((bV (c8 d)).getD c.toNat 0).toNat<(jH d).2.length:=by
    rw [h.Cz]
    have h2:=Nat.mul_le_mul_right (eE d).length (show i+1≤(jH d).1.length by omega)
    rw [Nat.add_mul,Nat.one_mul] at h2
    omega
  have hx:=h.nx _ hm
  have P1:=YS (a:=i) cF
  rw [P1.1,P1.2] at hx
  rw [e1]
  refine ⟨hx.1,hx.2.2.trans ?_⟩
  have Ho:=h.kC i hi
  have h3:=hs ((jH d).1.getD i 0).toNat oz (by rw [Int.toNat_of_nonneg Ho.1.1];exact Ho.2)
  have h4:=sK d (c:=((bV (c8 d)).getD c.toNat 0).toNat) oz
  rw [Int.toNat_of_nonneg Ho.1.1,Int.toNat_of_nonneg hc.1,Int.toNat_of_nonneg h4.1] at h3
  exact h3
theorem rm {d:au} (hr:aD d=true):∀(w:List Int) (i:Nat),i<(jH d).1.length→okW w→jg (dZ d) (i:Int) w=jg d ((jH d).1.getD i 0) w
  | [],i,hi,_=>by
    show ((jH d).1.map fun s=>d.acc.getD s.toNat false).getD (i:Int).toNat false=d.acc.getD ((jH d).1.getD i 0).toNat false
    rw [Int.toNat_natCast]
    simp [List.getD_eq_getElem?_getD,List.getElem?_eq_getElem hi]
  | c::w,i,hi,hw=>by
    have h1:=CC hr hi hw.tail.1
    have ih:=rm hr w (bO (dZ d) (i:Int) c).toNat oz hw.tail.2
    rw [Int.toNat_of_nonneg h1.1.1] at ih
    show jg (dZ d) (bO (dZ d) (i:Int) c) w=jg d (bO d ((jH d).1.getD i 0) c) w
    rw [ih]
    exact h1.2 w hw.tail.2
theorem Fh {d:au} (hr:aD d=true) {i:Nat} (hi:i<(jH d).1.length):pJ (dZ d) (i:Int) d ((jH d).1.getD i 0):=fun w hw=>rm hr w i hi hw
theorem CD {d:au} (hr:aD d=true):pJ (dZ d) (dZ d).start d d.start:=by
  have h:=zU hr
  have h1:=Fh hr h.pos
  rw [h.head] at h1
  exact h1
def xf (mm:List (Int×Int)) (met:List Int):Prop:=∀x,getM mm x=if x∈met then some ((ix x met:Nat):Int) else none
theorem xf.start (b:Int):xf (iC [] b 0) [b]:=fun x=>by
  rw [rC]
  by_cases e:x=b
  · subst e;simp [ix]
  · rw [if_neg e,if_neg (by simpa using e)];rfl
theorem xf.new {mm:List (Int×Int)} {met:List Int} {b:Int} (h:xf mm met) (hb:b∉met):xf (iC mm b ((met.length:Nat):Int)) (met++[b]):=fun x=>by
  rw [rC]
  by_cases e:x=b
  · subst e;rw [if_pos rfl,if_pos (by simp),o6 hb]
  · rw [if_neg e,h x]
    by_cases e2:x∈met
    · rw [if_pos e2,if_pos (List.mem_append_left _ e2),qi _ e2]
    · rw [if_neg e2,if_neg (by simp only [List.mem_append,List.mem_singleton];exact fun h9=>h9.elim e2 e)]
theorem L5 {d:au} {bl fs hs nx tt mx:List Int} {mj:List (Int×Int)} {s:Int} {j:Nat} (hF:(tt,mx)=(fs.take j).foldl (fW d bl s) (hs,nx)) (hM:xf mj (tt.map (fG bl))) (hj:j<fs.length)
    (hc:(getM mj (fG bl (bO d s (fs.getD j 0)))).isSome=true):(tt,mx++[(getM mj (fG bl (bO d s (fs.getD j 0)))).getD 0])=(fs.take (j+1)).foldl (fW d bl s) (hs,nx):=by
  rw [←lr hj,←hF]
  rw [hM] at hc ⊢
  by_cases h:fG bl (bO d s (fs.getD j 0))∈tt.map (fG bl)
  · unfold fW;rw [if_pos h,if_pos h];rfl
  · rw [if_neg h] at hc;cases hc
theorem zV {d:au} {bl fs hs nx tt mx:List Int} {mj:List (Int×Int)} {s:Int} {j:Nat} (hF:(tt,mx)=(fs.take j).foldl (fW d bl s) (hs,nx)) (hM:xf mj (tt.map (fG bl))) (hj:j<fs.length)
    (hc:¬(getM mj (fG bl (bO d s (fs.getD j 0)))).isSome=true):(tt++[bO d s (fs.getD j 0)],mx++[((tt.length:Nat):Int)])=(fs.take (j+1)).foldl (fW d bl s) (hs,nx)∧
      xf (iC mj (fG bl (bO d s (fs.getD j 0))) ((tt.length:Nat):Int)) ((tt++[bO d s (fs.getD j 0)]).map (fG bl)):=by
  rw [←lr hj,←hF]
  rw [hM] at hc
  by_cases h:fG bl (bO d s (fs.getD j 0))∈tt.map (fG bl)
  · rw [if_pos h] at hc;exact absurd rfl hc
  · refine ⟨by unfold fW;rw [if_neg h],?_⟩
    have:=hM.new h
    rw [List.length_map] at this
    rw [List.map_append];exact this
theorem pg.at' {d:au} (hr:aD d=true) {bl fs hs nx tt mx:List Int} (hb:x3 d bl) (CU:∀j,j<fs.length→0≤fs.getD j 0∧fs.getD j 0<259) {k j:Nat} (h:pg d fs (hs,nx) k 0) (hk:k<hs.length) (hj:j≤fs.length)
    (hF:(tt,mx)=(fs.take j).foldl (fW d bl (hs.getD k 0)) (hs,nx)):pg d fs (tt,mx) k j∧∃r,tt=hs++r:=by
  rw [hF]
  refine ⟨pg.upto hr hb CU h hk j hj,?_⟩
  obtain ⟨r,e⟩:=jK d bl (hs.getD k 0) (fs.take j) (hs,nx)
  rw [←hF] at e
  exact ⟨r,e⟩
def Km (d:au) (s:Int):Bool:=d.acc.getD s.toNat false
theorem Oc {d:au} {hs tt r:List Int} {k:Nat} (hk:k<hs.length) (e:tt=hs++r):(hs.take k).map (Km d)++[d.acc.getD (hs.getD k 0).toNat false]=(tt.take (k+1)).map (Km d):=by
  rw [e,List.take_append_of_le_length oz,bS 0 hk,List.map_append];rfl
theorem zR {d:au} {bl fs hs nx tt mx:List Int} {k j:Nat} (hR:cz d bl fs 4097 0 ([d.start],[])=cz d bl fs (4097-k) k (hs,nx)) (hk:k<hs.length) (h4:k<4097) (hj:j=fs.length)
    (hF:(tt,mx)=(fs.take j).foldl (fW d bl (hs.getD k 0)) (hs,nx)):cz d bl fs 4097 0 ([d.start],[])=cz d bl fs (4097-(k+1)) (k+1) (tt,mx):=by
  subst hj
  rw [List.take_length] at hF
  rw [hR,E4 h4 hk,hF]
theorem zS {d:au} {bl fs hs nx:List Int} {k:Nat} (hR:cz d bl fs 4097 0 ([d.start],[])=cz d bl fs (4097-k) k (hs,nx)) (hk:¬k<hs.length):(cz d bl fs 4097 0 ([d.start],[])).1=hs∧(cz d bl fs 4097 0 ([d.start],[])).2=nx:=by
  rw [hR,Cs hk];exact ⟨rfl,rfl⟩
theorem MT {d:au} {q:List Int} (hq:xW (Ko d) q 259):(∀j,j<(aE (bV q) ((dd q).length:Int)).length→0≤(aE (bV q) ((dd q).length:Int)).getD j 0∧(aE (bV q) ((dd q).length:Int)).getD j 0<259)∧(aE (bV q) ((dd q).length:Int)).length≤259:=by
  have e:=hq.uniq (jq d)
  subst e
  refine ⟨yU d,?_⟩
  have h1:=mN d
  have h2:=ux d
  unfold eE at h1
  omega
section
variable {β:Type} {f:β→Chunk} {l m:List β} {w w':World} {L:List Chunk} {G:List (List Chunk)}
theorem Ju (h:Hp w [ao f l,ao f m]):ax w [ao f l,ao f m] w [ao f (l++m)]:=by
  have h1:Hp w (l.map f++[ao f m]):=fS.1 h
  have h2:Hp w (ao f m::l.map f):=h1.perm (List.perm_append_singleton _ _)
  have h3:Hp w (m.map f++l.map f):=fS.1 h2
  have h4:Hp w (l.map f++m.map f):=h3.perm List.perm_append_comm
  refine ⟨fS.2 (by rw [List.append_nil,List.map_append];exact h4),cM.refl _ _,fun g hg=> .inl ?_⟩
  have e1:dn [ao f (l++m)]=dn ((l++m).map f++[]):=eZ _ _
  rw [e1,List.append_nil,List.map_append,ee] at hg
  have e2:dn [ao f l,ao f m]=dn (l.map f++[ao f m]):=eZ _ _
  have e3:dn [ao f m]=dn (m.map f++[]):=eZ _ _
  rw [e2,ee,e3,List.append_nil]
  exact hg
theorem av.Mz (h:av w L w' G) (i j:Nat) (cD:Nat.beq i j=false) (hi:G[i]?=some [ao f l]) (hj:G[j]?=some [ao f m]):av w L w' ((G.set i [ao f (l++m)]).set j []++[[]]):=
  h.fE (A':=[ao f (l++m)]) (B':=[]) (C:=[]) i j cD hi hj (Ju (h.CQ i j cD hi hj))
end
def lV (e7 e2:TypeId) (a:aP) (n c:Nat) (F:List (LR (LR Int))):Chunk:=many [ag aK (.slice a n c) e7 F,ao (aG aK e2).row F,ao (aG (aw .i64) 3).row (F.flatMap LR.xs)]
section
variable {w w':World} {L:List Chunk} {G:List (List Chunk)} {e7 e2:TypeId} {a:aP} {n c:Nat} {F:List (LR (LR Int))}
theorem av.LO (h:av w L w' G) (i:Nat) (hi:G[i]?=some [ag aK (.slice a n c) e7 F,ao (aG aK e2).row F,ao (aG (aw .i64) 3).row (F.flatMap LR.xs)]):av w L w' (G.set i [lV e7 e2 a n c F]):=by
  refine h.on i hi ⟨fS.2 ?_,cM.refl _ _,fun g hg=> .inl ?_⟩
  · have:=h.bU i hi
    simpa using this
  · have e1:=eZ [ag aK (.slice a n c) e7 F,ao (aG aK e2).row F,ao (aG (aw .i64) 3).row (F.flatMap LR.xs)] []
    unfold lV at hg
    rw [e1] at hg;simpa using hg
theorem oq (h:Hp w [lV e7 e2 a n c F]):Hp w [ag aK (.slice a n c) e7 F,ao (aG aK e2).row F,ao (aG (aw .i64) 3).row (F.flatMap LR.xs)]:=by
  have:=(fS (L:=[ag aK (.slice a n c) e7 F,ao (aG aK e2).row F,ao (aG (aw .i64) 3).row (F.flatMap LR.xs)]) (M:=[])).1 h
  simpa using this
theorem wi (h:Hp w [lV e7 e2 a n c F]):bz aK w (.slice a n c) F:=cC (oq h) (List.mem_of_getElem? (i:=0) rfl)
theorem C7 (h:Hp w [lV e7 e2 a n c F]):(aG aK e2).Rd w F:=
  eK.own ⟨fun c' hc=>(oq h).holds c' (by simp only [List.mem_singleton] at hc;subst hc;simp),(oN (L:=[ag aK (.slice a n c) e7 F,ao (aG aK e2).row F,ao (aG (aw .i64) 3).row (F.flatMap LR.xs)]) (by simp)).nodup (oq h).nodup⟩
theorem kr (h:Hp w [lV e7 e2 a n c F]) {p:LR (LR Int)} (hp:p∈F):(aG (aw .i64) 3).Rd w p.xs:=fun q hq=>
  (eK.own (I:=aG (aw .i64) 3) (ps:=F.flatMap LR.xs) ⟨fun c' hc=>(oq h).holds c' (by simp only [List.mem_singleton] at hc;subst hc;simp),(oN (L:=[ag aK (.slice a n c) e7 F,ao (aG aK e2).row F,ao (aG (aw .i64) 3).row (F.flatMap LR.xs)]) (by simp)).nodup (oq h).nodup⟩) q (List.mem_flatMap.2 ⟨p,hp,hq⟩)
end
section
variable {P:Program} {κ ν:Type} [DecidableEq κ] {ek:κ→Value} {fy:ν→Value} {Γ:Env} {w:World} {ty:TypeId} {K:Value→World→Prop}
theorem oy {t k e:TypeId} {x ix:Operand} {g:Nat} {m:List (κ×ν)} (a:κ) (d:ν) {s b:Nat} (y:ν) (he:(getM m a).getD d=y) (ks:s8 P k ek) (ht:P.underlying t=some (.map k e)) (hz:bX P e=some (s,b,some (fy d))) (hx:ev Γ x=some (.map (some g))) (hi:ev Γ ix=some (ek a))
    (hm:oH w ek fy g m) (kk:K (fy y) w):aq P Γ w (.lookup t x ix false) ty K:=HR a d ks ht hz hx hi hm (he▸kk)
end
def jl:Ty (Int×Int):=⟨2,fun x=>[.int .i64 x.1,.int .i64 x.2],fun _=>rfl,fun x u h=>by
  simp only [List.mem_cons,List.not_mem_nil,or_false] at h;rcases h with rfl|rfl<;>rfl,by omega⟩
instance:Df jl (0,0):=⟨trivial⟩
def ZQ (P:Program) (f:FuncId) (fc:List Value) (p:Int→Bool) (S:List Nat) (w:World):Prop:=
  ∀w':World,cM S w w'→∀x:Int,Calls P f (#[.int .i64 x]++fc.toArray) w' (aX fun v kR=>v= .bool (p x)∧ax w' [] kR [])
theorem cj {α:Type} [DecidableEq α]:∀ {l m:List α},l.Nodup→(∀x,x∈l→x∈m)→l.length≤m.length
  | [],m,_,_=>by simp
  | x::l,m,hn,hs=>by
    have KE:=List.nodup_cons.1 hn
    have hx:=hs x List.mem_cons_self
    have h1:=cj (l:=l) (m:=m.erase x) KE.2 (fun y hy=>by
      have bm:y≠x:=fun e=>KE.1 (e▸hy)
      exact (List.mem_erase_of_ne bm).2 (hs y (List.mem_cons_of_mem _ hy)))
    rw [List.length_erase_of_mem hx] at h1
    have:=List.length_pos_of_mem hx
    simp only [List.length_cons];omega
theorem Jp {α:Type} [DecidableEq α] {l m:List α} (hl:l.Nodup) (hs:∀x,x∈l→x∈m) (hlen:m.length≤l.length):∀y,y∈m→y∈l:=fun y hy=>by
  refine Classical.byContradiction fun hn=>?_
  have:=cj (l:=y::l) (m:=m) (List.nodup_cons.2 ⟨hn,hl⟩) (fun x hx=>by
    rcases List.mem_cons.1 hx with rfl|hx
    · exact hy
    · exact hs x hx)
  simp only [List.length_cons] at this
  omega
theorem E6 {α:Type} [DecidableEq α] {l m:List α} (hm:m.Nodup) (hlen:l.length<m.length):∃y,y∈m∧y∉l:=by
  refine Classical.byContradiction fun hn=>?_
  have:=cj (l:=m) (m:=l) hm (fun x hx=>Classical.byContradiction fun h9=>hn ⟨x,hx,h9⟩)
  omega
def fv (ms:List (LR Int)) (b:Nat):List Int:=(ms.getD b ae).xs
def bk (bl:List Int) (i:Nat):Nat:=(bl.getD i 0).toNat
def dl (d:au) (k i:Nat):Nat:=(d.next.getD ((i:Int)*d.width+(aZ d).getD k 0).toNat 0).toNat
theorem k4 {d:au} (hr:aD d=true) {k i:Nat} (hk:k<(aZ d).length) (hi:i<d.acc.length):dl d k i<d.acc.length∧((dl d k i:Nat):Int)=d.next.getD ((i:Int)*d.width+(aZ d).getD k 0).toNat 0:=by
  have h1:=uu hr (ak (d:=0) hk)
  have h2:=eA hr (q:=(i:Int)) oz oz h1.1 h1.2
  unfold dl;omega
theorem Ui {d:au} (hr:aD d=true) {c:Int} (hc:0≤c∧c<259):∃k,k<(aZ d).length∧∀i,dN d i c=dl d k i:=by
  have h1:=(bh.1 hr).1.1
  have hm:d.cls.getD c.toNat 0∈aZ d:=(qH d _).2 (ak oz)
  obtain ⟨k,hk,e⟩:=List.mem_iff_getElem.1 hm
  refine ⟨k,hk,fun i=>?_⟩
  have e2:(aZ d).getD k 0=d.cls.getD c.toNat 0:=by rw [←e];simp [List.getD_eq_getElem?_getD,List.getElem?_eq_getElem hk]
  unfold dN bO dl;rw [e2]
theorem Uj {d:au} (hr:aD d=true) {k:Nat} (hk:k<(aZ d).length):∃c:Int,(0≤c∧c<259)∧∀i,dN d i c=dl d k i:=by
  have h1:=(bh.1 hr).1.1
  have hm:(aZ d).getD k 0∈d.cls:=(qH d _).1 (ak hk)
  obtain ⟨j,hj,e⟩:=List.mem_iff_getElem.1 hm
  refine ⟨(j:Int),by omega,fun i=>?_⟩
  have e2:d.cls.getD j 0=(aZ d).getD k 0:=by rw [←e];simp [List.getD_eq_getElem?_getD,List.getElem?_eq_getElem hj]
  unfold dN bO dl;rw [Int.toNat_natCast,e2]
theorem Uk {d:au} (hr:aD d=true) {k p q:Nat} (hk:k<(aZ d).length) (h:Sj d (dl d k p) (dl d k q)):Sj d p q:=by
  obtain ⟨c,hc,e⟩:=Uj hr hk
  obtain ⟨t,ht⟩:=h
  exact ⟨t+1,.inr ⟨c,hc,by rw [e,e];exact ht⟩⟩
structure nD (n:Nat) (bl:List Int) (ms:List (LR Int)):Prop where
  len:bl.length=n
  kC:∀i,i<n→0≤bl.getD i 0∧bl.getD i 0<(ms.length:Int)
  mem:∀b,b<ms.length→∀x:Int,x∈fv ms b↔∃i:Nat,i<n∧x=(i:Int)∧bl.getD i 0=(b:Int)
  nd:∀b,b<ms.length→(fv ms b).Nodup
  pos:∀b,b<ms.length→fv ms b≠[]
theorem nD.bound {n:Nat} {bl:List Int} {ms:List (LR Int)} (h:nD n bl ms):ms.length≤n:=by
  have key:=cj (l:=(List.range ms.length).map fun b=>((fv ms b).headD 0).toNat) (m:=List.range n) ?_ ?_
  · simpa using key
  · rw [List.nodup_iff_pairwise_ne,List.pairwise_map]
    refine (List.nodup_iff_pairwise_ne.1 List.nodup_range).imp_of_mem ?_
    intro a b ha hb bm e
    have pick:∀c,c<ms.length→∃i:Nat,i<n∧((fv ms c).headD 0).toNat=i∧bl.getD i 0=(c:Int):=fun c hc=>by
      have hp:=h.pos c hc
      cases hm:fv ms c with
      | nil=>exact absurd hm hp
      | cons y l=>
        obtain ⟨i,hi,e1,e2⟩:=(h.mem c hc y).1 (by rw [hm];exact List.mem_cons_self)
        exact ⟨i,hi,by simp only [List.headD_cons];omega,e2⟩
    obtain ⟨i,hi,e1,e2⟩:=pick a (List.mem_range.1 ha)
    obtain ⟨j,hj,e3,e4⟩:=pick b (List.mem_range.1 hb)
    have:i=j:=by rw [←e1,←e3];exact e
    subst this
    rw [e2] at e4
    exact bm oz
  · intro x hx
    obtain ⟨b,hb,rfl⟩:=List.mem_map.1 hx
    have hb:=List.mem_range.1 hb
    have hp:=h.pos b hb
    cases hm:fv ms b with
    | nil=>exact absurd hm hp
    | cons y l=>
      obtain ⟨i,hi,e1,e2⟩:=(h.mem b hb y).1 (by rw [hm];exact List.mem_cons_self)
      simp only [List.headD_cons,List.mem_range];omega
theorem nD.ue {n:Nat} {bl:List Int} {ms:List (LR Int)} (h:nD n bl ms) {b:Nat} (hb:b<ms.length):(fv ms b).length≤n:=by
  have key:=cj (l:=fv ms b) (m:=(List.range n).map fun i:Nat=>(i:Int)) (h.nd b hb) (fun x hx=>by
    obtain ⟨i,hi,e,_⟩:=(h.mem b hb x).1 hx
    exact List.mem_map.2 ⟨i,List.mem_range.2 hi,e.symm⟩)
  simpa using key
structure R8 (K nb:Nat) (td:List (Int×Int)) (wt:List (LR Bool)):Prop where
  len:wt.length=nb
  row:∀b,b<nb→(wt.getD b ae).xs.length=K
  todo:∀b c,b<nb→c<K→cG wt b c=true→(((b:Nat):Int),((c:Nat):Int))∈td
  bd:∀t:Int×Int,t∈td→(0≤t.1∧t.1<(nb:Int))∧(0≤t.2∧t.2<(K:Int))
def ZI (d:au) (bl:List Int) (wt:List (LR Bool)) (E:Nat→Nat→Nat→Prop):Prop:=
  ∀k p q,k<(aZ d).length→p<d.acc.length→q<d.acc.length→bl.getD p 0=bl.getD q 0→bl.getD (dl d k p) 0≠bl.getD (dl d k q) 0→cG wt (bk bl (dl d k p)) k=true∨cG wt (bk bl (dl d k q)) k=true∨E k p q
def Vg (d:au) (bl:List Int):Prop:=∀p q,p<d.acc.length→q<d.acc.length→bl.getD p 0≠bl.getD q 0→Sj d p q
def ZT (d:au) (bl:List Int):Prop:=∀p q,p<d.acc.length→q<d.acc.length→bl.getD p 0=bl.getD q 0→d.acc.getD p false=d.acc.getD q false
structure kA (d:au) (bl:List Int) (ms:List (LR Int)) (td:List (Int×Int)) (wt:List (LR Bool)) (E:Nat→Nat→Nat→Prop):Prop where
  part:nD d.acc.length bl ms
  wait:R8 (aZ d).length ms.length td wt
  O0:ZI d bl wt E
  snd:Vg d bl
  acc:ZT d bl
structure rS (wt:List (LR Bool)) (b c:Nat) (v:Bool) (ph:List (LR Bool)):Prop where
  len:ph.length=wt.length
  row:∀i,(ph.getD i ae).xs.length=(wt.getD i ae).xs.length
  val:∀i j,cG ph i j=if i=b∧j=c then v else cG wt i j
theorem rS.mk' {X:List (LR Bool)} {i k:Nat} {b:Bool} (TD:i<X.length) (hk:k<(X.getD i ae).xs.length):rS X i k b (X.set i ⟨(X.getD i ae).a,(X.getD i ae).n,(X.getD i ae).c,(X.getD i ae).xs.set k b⟩):=by
  have hg:∀r,(X.set i ⟨(X.getD i ae).a,(X.getD i ae).n,(X.getD i ae).c,(X.getD i ae).xs.set k b⟩).getD r ae=if i=r then ⟨(X.getD i ae).a,(X.getD i ae).n,(X.getD i ae).c,(X.getD i ae).xs.set k b⟩ else X.getD r ae:=fun r=>by
    simp only [List.getD_eq_getElem?_getD,List.getElem?_set]
    split
    · rename_i e;subst e;simp [TD]
    · rfl
  refine ⟨by simp,fun r=>?_,fun r c=>?_⟩
  · rw [hg];split
    · rename_i e;subst e;simp
    · rfl
  · unfold cG
    rw [hg]
    by_cases e:i=r
    · subst e
      rw [if_pos rfl]
      show ((X.getD i ae).xs.set k b).getD c false=_
      rw [JU hk]
      by_cases e2:k=c
      · subst e2;simp
      · rw [if_neg e2,if_neg (fun h=>e2 h.2.symm)]
    · rw [if_neg e,if_neg (fun h=>e h.1.symm)]
structure QY (b:Nat) (out:List Int) (K:Nat) (bl:List Int) (ms:List (LR Int)) (td:List (Int×Int)) (wt:List (LR Bool)) (pe:List Int) (zX:List (LR Int)) (Ot:List (Int×Int)) (ph:List (LR Bool)):Prop where
  ml:zX.length=ms.length+1
  m1:fv zX b=(fv ms b).filter (fun x=> !decide (x∈out))
  m2:fv zX ms.length=out
  m3:∀i,i<ms.length→i≠b→zX.getD i ae=ms.getD i ae
  bll:pe.length=bl.length
  bv:∀i,i<bl.length→pe.getD i 0=if (i:Int)∈out then (ms.length:Int) else bl.getD i 0
  wl:ph.length=wt.length+1
  wr:∀i,i<wt.length+1→(ph.getD i ae).xs.length=K
  wk:∀i c,i<wt.length→c<K→cG wt i c=true→cG ph i c=true
  wn:∀i c,i<wt.length+1→c<K→cG ph i c=true→(i<wt.length∧cG wt i c=true)∨(((i:Nat):Int),((c:Nat):Int))∈Ot
  ws:∀c,c<K→(cG wt b c=true→cG ph wt.length c=true)∧(cG ph b c=true∨cG ph wt.length c=true)
  tl:Ot.length=td.length+K
  tk:∀t,t∈td→t∈Ot
  tb:∀t:Int×Int,t∈Ot→t∈td∨((t.1=(b:Int)∨t.1=(wt.length:Int))∧(0≤t.2∧t.2<(K:Int)))
theorem kA.split {d:au} {bl pe:List Int} {ms zX:List (LR Int)} {td Ot:List (Int×Int)} {wt ph:List (LR Bool)} {E:Nat→Nat→Nat→Prop} {b:Nat} {out:List Int}
    (hr:aD d=true) (h:kA d bl ms td wt E) (s:QY b out (aZ d).length bl ms td wt pe zX Ot ph) (hb:b<ms.length) (PJ:∀x,x∈out→x∈fv ms b) (r8:out.Nodup) (bm:out≠[]) (XR:∃y,y∈fv ms b∧y∉out)
    (X9:∀p q:Nat,p<d.acc.length→q<d.acc.length→(p:Int)∈out→(q:Int)∈fv ms b→(q:Int)∉out→Sj d p q):kA d pe zX Ot ph E:=by
  have KG:=h.part.len
  have hwl:=h.wait.len
  have ME:∀i:Nat,i<d.acc.length→(i:Int)∈out→bl.getD i 0=(b:Int):=fun i hi ho=>by
    obtain ⟨j,hj,e1,e2⟩:=(h.part.mem b hb _).1 (PJ _ ho)
    have:i=j:=by omega
    subst this;exact e2
  have bv:∀i,i<d.acc.length→pe.getD i 0=if (i:Int)∈out then (ms.length:Int) else bl.getD i 0:=fun i hi=>s.bv i oz
  have up:∀p q,p<d.acc.length→q<d.acc.length→pe.getD p 0=pe.getD q 0→bl.getD p 0=bl.getD q 0:=fun p q hp hq e=>by
    rw [bv p hp,bv q hq] at e
    have r1:=h.part.kC p hp
    have r2:=h.part.kC q hq
    by_cases o1:(p:Int)∈out
    · by_cases o2:(q:Int)∈out
      · rw [ME p hp o1,ME q hq o2]
      · rw [if_pos o1,if_neg o2] at e;omega
    · by_cases o2:(q:Int)∈out
      · rw [if_neg o1,if_pos o2] at e;omega
      · rw [if_neg o1,if_neg o2] at e;exact e
  refine ⟨⟨by rw [s.bll];exact KG,fun i hi=>?_,fun c hc x=>?_,fun c hc=>?_,fun c hc=>?_⟩,⟨by rw [s.wl,s.ml,hwl],fun c hc=>s.wr c (by rw [s.ml] at hc;omega),fun c k hc hk ht=>?_,fun t ht=>?_⟩,?_,?_,fun p q hp hq e=>h.acc p q hp hq (up p q hp hq e)⟩
  · have r1:=h.part.kC i hi
    rw [bv i hi,s.ml];split<;>omega
  · rw [s.ml] at hc
    by_cases e1:c=ms.length
    · subst e1
      rw [s.m2]
      constructor
      · intro hx
        obtain ⟨i,hi,e,e2⟩:=(h.part.mem b hb _).1 (PJ _ hx)
        exact ⟨i,hi,e,by rw [bv i hi,if_pos (e▸hx)]⟩
      · rintro ⟨i,hi,rfl,e⟩
        rw [bv i hi] at e
        split at e
        · assumption
        · have:=(h.part.kC i hi).2;omega
    · have D6:c<ms.length:=by omega
      by_cases e2:c=b
      · subst e2
        rw [s.m1,List.mem_filter,h.part.mem c hb]
        constructor
        · rintro ⟨⟨i,hi,rfl,e⟩,ho⟩
          have ho:(i:Int)∉out:=by simpa using ho
          exact ⟨i,hi,rfl,by rw [bv i hi,if_neg ho];exact e⟩
        · rintro ⟨i,hi,rfl,e⟩
          rw [bv i hi] at e
          split at e
          · omega
          · rename_i ho;exact ⟨⟨i,hi,rfl,e⟩,by simpa using ho⟩
      · have e3:fv zX c=fv ms c:=by unfold fv;rw [s.m3 c D6 e2]
        rw [e3,h.part.mem c D6]
        constructor
        · rintro ⟨i,hi,rfl,e⟩
          refine ⟨i,hi,rfl,?_⟩
          rw [bv i hi,if_neg (fun ho=>e2 (by have:=ME i hi ho;omega))];exact e
        · rintro ⟨i,hi,rfl,e⟩
          refine ⟨i,hi,rfl,?_⟩
          rw [bv i hi] at e
          split at e
          · omega
          · exact e
  · rw [s.ml] at hc
    by_cases e1:c=ms.length
    · subst e1;rw [s.m2];exact r8
    · by_cases e2:c=b
      · subst e2;rw [s.m1];exact (h.part.nd c hb).sublist List.filter_sublist
      · have e3:fv zX c=fv ms c:=by unfold fv;rw [s.m3 c oz e2]
        rw [e3];exact h.part.nd c oz
  · rw [s.ml] at hc
    by_cases e1:c=ms.length
    · subst e1;rw [s.m2];exact bm
    · by_cases e2:c=b
      · subst e2;rw [s.m1]
        obtain ⟨y,hy,hn⟩:=XR
        exact List.ne_nil_of_mem (List.mem_filter.2 ⟨hy,by simpa using hn⟩)
      · have e3:fv zX c=fv ms c:=by unfold fv;rw [s.m3 c oz e2]
        rw [e3];exact h.part.pos c oz
  · rw [s.ml] at hc
    rcases s.wn c k oz hk ht with ⟨h1,h2⟩|h1
    · exact s.tk _ (h.wait.todo c k oz hk h2)
    · exact h1
  · rw [s.ml]
    rcases s.tb t ht with h1|⟨h1,h2⟩
    · have:=h.wait.bd t h1;omega
    · omega
  · intro k p q hk hp hq e v7
    have e0:=up p q hp hq e
    have lp:=(k4 hr hk hp).1
    have lq:=(k4 hr hk hq).1
    have key:∀i,i<d.acc.length→cG wt (bk bl i) k=true→cG ph (bk pe i) k=true:=fun i hi hc=>by
      have r1:=h.part.kC i hi
      by_cases o:(i:Int)∈out
      · have e1:bk pe i=wt.length:=by unfold bk;rw [bv i hi,if_pos o,hwl];simp
        have e2:bk bl i=b:=by unfold bk;rw [ME i hi o];simp
        rw [e1];rw [e2] at hc
        exact (s.ws k hk).1 hc
      · have e1:bk pe i=bk bl i:=by unfold bk;rw [bv i hi,if_neg o]
        rw [e1]
        exact s.wk _ k (by unfold bk;omega) hk hc
    by_cases e3:bl.getD (dl d k p) 0=bl.getD (dl d k q) 0
    · rw [bv _ lp,bv _ lq] at v7
      have w:=(s.ws k hk).2
      have at_:∀i,i<d.acc.length→bk pe i=if (i:Int)∈out then wt.length else bk bl i:=fun i hi=>by
        unfold bk;rw [bv i hi];split
        · rw [hwl];simp
        · rfl
      by_cases o1:((dl d k p:Nat):Int)∈out
      · by_cases o2:((dl d k q:Nat):Int)∈out
        · rw [if_pos o1,if_pos o2] at v7;exact absurd rfl v7
        · have e4:bk bl (dl d k q)=b:=by unfold bk;rw [←e3,ME _ lp o1];simp
          rw [at_ _ lp,if_pos o1,at_ _ lq,if_neg o2,e4]
          rcases w with w|w
          · exact .inr (.inl w)
          · exact .inl w
      · by_cases o2:((dl d k q:Nat):Int)∈out
        · have e4:bk bl (dl d k p)=b:=by unfold bk;rw [e3,ME _ lq o2];simp
          rw [at_ _ lp,if_neg o1,at_ _ lq,if_pos o2,e4]
          rcases w with w|w
          · exact .inl w
          · exact .inr (.inl w)
        · rw [if_neg o1,if_neg o2] at v7;exact absurd e3 v7
    · rcases h.O0 k p q hk hp hq e0 e3 with h1|h1|h1
      · exact .inl (key _ lp h1)
      · exact .inr (.inl (key _ lq h1))
      · exact .inr (.inr h1)
  · intro p q hp hq v7
    rw [bv p hp,bv q hq] at v7
    by_cases e3:bl.getD p 0=bl.getD q 0
    · by_cases o1:(p:Int)∈out
      · by_cases o2:(q:Int)∈out
        · rw [if_pos o1,if_pos o2] at v7;exact absurd rfl v7
        · exact X9 p q hp hq o1 ((h.part.mem b hb _).2 ⟨q,hq,rfl,by rw [←e3];exact ME p hp o1⟩) o2
      · by_cases o2:(q:Int)∈out
        · exact Ng (X9 q p hq hp o2 ((h.part.mem b hb _).2 ⟨p,hp,rfl,by rw [e3];exact ME q hq o2⟩) o1)
        · rw [if_neg o1,if_neg o2] at v7;exact absurd e3 v7
    · exact h.snd p q hp hq e3
end Go.Sx
