/- The state of memory for walks: what a piece of code owns, what it keeps. -/
import Derived.WalkKit
import Derived.Maps.AppendAt
import Derived.Deep.Quiet
import Derived.Deep.LoopGhost
import Derived.KernelRfl
import Derived.Laws.StructEq
import Derived.Lib.SliceRun
import Derived.Sort.Row
import Derived.Sort.Grow
import Derived.Lib.ConvBytes
import Derived.MapKept
import Derived.WideKeyRuns
import Derived.Carry
import Derived.Laws.BytesArg
import Derived.ChangeKeysEq
import Derived.Lib.ItoaMem
import Derived.Lib.ItoaLen
import Derived.Lib.AtoiAll
import Derived.Lib.AppendStr
import Derived.Lib.AppendIntMem
import Derived.Lib.AtoiErrMem
import Derived.Lib.SplitLaws
import Derived.Lib.IndexLaws
set_option linter.unusedVariables false
set_option linter.unusedSimpArgs false
set_option linter.unusedSectionVars false
set_option maxRecDepth 20000
namespace Go.Sx
theorem om {p:Prop} (h:p:=by first|assumption|omega|simp):p:=h
theorem oa {p:Prop} (h:p:=by first|assumption|omega):p:=h
theorem oz {p:Prop} (h:p:=by omega):p:=h
abbrev aO:=Option Addr
structure di (S:List Nat) (w w':World):Prop where
  os:w'.os=w.os
  tape:w'.tape=w.tape
  output:w'.output=w.output
  size:w.heap.size≤w'.heap.size
  block:∀k,k<w.heap.size→k∉S→w'.heap[k]?=w.heap[k]?
theorem di.refl (S:List Nat) (w:World):di S w w:=⟨rfl,rfl,rfl,Nat.le_refl _,fun _ _ _=>rfl⟩
theorem di.trans {S:List Nat} {a b c:World} (h:di S a b) (k:di S b c):di S a c:=
  ⟨k.os.trans h.os,k.tape.trans h.tape,k.output.trans h.output,Nat.le_trans h.size k.size,
    fun i hi hs=>(k.block i (Nat.lt_of_lt_of_le hi h.size) hs).trans (h.block i hi hs)⟩
theorem di.step {S T:List Nat} {a b c:World} (h:di S a b) (k:di T b c) (hT:∀g,g∈T→g∈S∨a.heap.size≤g):di S a c:=
  ⟨k.os.trans h.os,k.tape.trans h.tape,k.output.trans h.output,Nat.le_trans h.size k.size,
    fun i hi hs=>(k.block i (Nat.lt_of_lt_of_le hi h.size) (fun hm=>by rcases hT i hm with h1|h1;exact hs h1;omega)).trans (h.block i hi hs)⟩
theorem di.mono {S T:List Nat} {a b:World} (h:di S a b) (hT:∀g,g∈S→g∈T):di T a b:=
  ⟨h.os,h.tape,h.output,h.size,fun i hi hs=>h.block i hi (fun hm=>hs (hT i hm))⟩
theorem di.nil {S:List Nat} {a b:World} (h:di [] a b):di S a b:=h.mono (by simp)
theorem di.below {w w':World} (h:di [] w w'):RowKit.Below w.heap.size w w':=⟨h.os,h.tape,h.output,h.size,fun k hk=>h.block k hk (by simp)⟩
theorem di.PL (w:World) (n:Nat):di [] w { w with drawn:=n } :=⟨rfl,rfl,rfl,Nat.le_refl _,fun _ _ _=>rfl⟩
theorem di.cell {S:List Nat} {w w':World} (h:di S w w') {a:Addr} {v:Value} (hc:w.cell? a=some v) (hS:a.block∉S):w'.cell? a=some v:=by
  rw [←hc]
  exact World.cell?_of_block (w:=w) (h.block _ (World.block_lt_of_cell? w a hc) hS)
theorem di.obj {S:List Nat} {w w':World} (h:di S w w') {g:Nat} {o:Obj} (hc:w.heap[g]?=some o) (hS:g∉S):w'.heap[g]?=some o:=by
  rw [←hc]
  exact h.block _ (Array.getElem?_eq_some_iff.1 hc).1 hS
theorem lh {w:World} {g:Nat} {o:Obj} (h:w.heap[g]?=some o):g<w.heap.size:=(Array.getElem?_eq_some_iff.1 h).1
structure Chunk where
  bs:List Nat
  P:World→Prop
  loc:∀w w',(∀g,g∈bs→w'.heap[g]?=w.heap[g]?)→P w→P w'
  lt:∀w g,g∈bs→P w→g<w.heap.size
  nd:∀w,P w→bs.Nodup
def Chunk.holds (w:World) (c:Chunk):Prop:=c.P w
def dI (L:List Chunk):List Nat:=L.flatMap Chunk.bs
theorem iA {L:List Chunk} {g:Nat} :g∈dI L↔∃c,c∈L∧g∈c.bs:=by simp [dI]
theorem eO (L M:List Chunk):dI (L++M)=dI L++dI M:=by simp [dI]
theorem pU:∀ {M L:List Chunk},M.Sublist L→(dI M).Sublist (dI L)
  | _,_,.slnil=> .slnil
  | _,_,.cons a h=>(pU h).trans (List.sublist_append_right _ _)
  | _,_,.cons_cons a h=>(pU h).append_left a.bs
structure Hp (w:World) (L:List Chunk):Prop where
  holds:∀c,c∈L→c.holds w
  nodup:(dI L).Nodup
theorem Hp.nil (w:World):Hp w []:=⟨by simp,by simp [dI]⟩
theorem Hp.lt {w:World} {L:List Chunk} (h:Hp w L) {g:Nat} (hg:g∈dI L):g<w.heap.size:=by
  obtain ⟨c,hc,e⟩:=iA.1 hg
  exact c.lt w g e (h.holds c hc)
theorem Hp.perm {w:World} {L M:List Chunk} (h:Hp w L) (p:L.Perm M):Hp w M:=
  ⟨fun c hc=>h.holds c (p.mem_iff.2 hc),(List.Perm.nodup_iff (p.flatMap_right _)).1 h.nodup⟩
theorem Hp.left {w:World} {L M:List Chunk} (h:Hp w (L++M)):Hp w L:=
  ⟨fun c hc=>h.holds c (List.mem_append_left _ hc),by have:=h.nodup;rw [eO] at this;exact (List.nodup_append.1 this).1⟩
theorem Hp.right {w:World} {L M:List Chunk} (h:Hp w (L++M)):Hp w M:=
  ⟨fun c hc=>h.holds c (List.mem_append_right _ hc),by have:=h.nodup;rw [eO] at this;exact (List.nodup_append.1 this).2.1⟩
theorem Hp.apart {w:World} {L M:List Chunk} (h:Hp w (L++M)) {g:Nat} (h1:g∈dI L) (h2:g∈dI M):False:=by
  have:=h.nodup;rw [eO] at this;exact (List.nodup_append.1 this).2.2 g h1 g h2 rfl
theorem Hp.keep {w w':World} {L:List Chunk} {S:List Nat} (h:Hp w L) (k:di S w w') (hS:∀g,g∈dI L→g∉S):Hp w' L:=by
  refine ⟨fun c hc=>c.loc w w' (fun g hg=>?_) (h.holds c hc),h.nodup⟩
  exact k.block g (c.lt w g hg (h.holds c hc)) (hS g (iA.2 ⟨c,hc,hg⟩))
theorem Hp.append {w:World} {L M:List Chunk} (h:Hp w L) (k:Hp w M) (hd:∀g,g∈dI L→g∉dI M):Hp w (L++M):=by
  refine ⟨fun c hc=>?_,?_⟩
  · rcases List.mem_append.1 hc with h1|h1
    · exact h.holds c h1
    · exact k.holds c h1
  · rw [eO]
    exact List.nodup_append.2 ⟨h.nodup,k.nodup,fun a ha b hb e=>hd a ha (e▸hb)⟩
structure aE (w:World) (L:List Chunk) (w':World) (L':List Chunk):Prop where
  hp:Hp w' L'
  keep:di (dI L) w w'
  fresh:∀g,g∈dI L'→g∈dI L∨w.heap.size≤g
theorem aE.refl {w:World} {L:List Chunk} (h:Hp w L):aE w L w L:=⟨h,di.refl _ _,fun _ h=> .inl h⟩
theorem aE.nil (w:World):aE w [] w []:=aE.refl (Hp.nil w)
theorem aE.size {w w':World} {L L':List Chunk} (h:aE w L w' L'):w.heap.size≤w'.heap.size:=h.keep.size
theorem aE.drop {w w':World} {L L' M:List Chunk} (h:aE w L w' L') (hs:M.Sublist L'):aE w L w' M:=
  ⟨⟨fun c hc=>h.hp.holds c (hs.subset hc),(pU hs).nodup h.hp.nodup⟩,h.keep,fun g hg=>h.fresh g ((pU hs).subset hg)⟩
theorem aE.ag {w w':World} {L L':List Chunk} (h:aE w L w' L'):aE w L w' []:=h.drop (List.nil_sublist _)
theorem aE.perm {w w':World} {L L' M:List Chunk} (h:aE w L w' L') (p:L'.Perm M):aE w L w' M:=
  ⟨h.hp.perm p,h.keep,fun g hg=>h.fresh g ((p.flatMap_right _).mem_iff.2 hg)⟩
theorem aE.kept {w w1 w2:World} {L L':List Chunk} (h:aE w L w1 L') (k:di [] w1 w2):aE w L w2 L':=
  ⟨h.hp.keep k (by simp),h.keep.step k (by simp),h.fresh⟩
theorem aE.frame {w w1 w2:World} {L A B M:List Chunk} (h:aE w L w1 (A++M)) (k:aE w1 A w2 B):aE w L w2 (B++M):=by
  have hM:Hp w2 M:=h.hp.right.keep k.keep (fun g h2 h1=>h.hp.apart h1 h2)
  refine ⟨k.hp.append hM ?_,?_,?_⟩
  · intro g hb hm
    rcases k.fresh g hb with h1|h1
    · exact h.hp.apart h1 hm
    · have:=h.hp.right.lt hm;omega
  · refine h.keep.step k.keep ?_
    intro g hg
    exact h.fresh g (by rw [eO];exact List.mem_append_left _ hg)
  · intro g hg
    rw [eO] at hg
    rcases List.mem_append.1 hg with h1|h1
    · rcases k.fresh g h1 with h2|h2
      · exact h.fresh g (by rw [eO];exact List.mem_append_left _ h2)
      · exact .inr (Nat.le_trans h.size h2)
    · exact h.fresh g (by rw [eO];exact List.mem_append_right _ h1)
def aA (w:World) (L:List Chunk) (w':World) (G:List (List Chunk)):Prop:=aE w L w' G.flatten
theorem jm {α:Type} :∀(G:List (List α)) (i:Nat) (A:List α),G[i]?=some A→G.flatten.Perm (A++(G.set i []).flatten)
  | [],i,A,h=>by simp at h
  | B::G,0,A,h=>by simp at h;subst h;simp
  | B::G,i+1,A,h=>by
    simp only [List.flatten_cons,List.set_cons_succ]
    have ih:=jm G i A (by simpa using h)
    exact (ih.append_left B).trans (by rw [←List.append_assoc,←List.append_assoc];exact (List.perm_append_comm).append_right _)
theorem mU {α:Type} :∀(G:List (List α)) (i:Nat) (A B:List α),G[i]?=some A→(B++(G.set i []).flatten).Perm (G.set i B).flatten
  | [],i,A,B,h=>by simp at h
  | C::G,0,A,B,h=>by simp
  | C::G,i+1,A,B,h=>by
    simp only [List.flatten_cons,List.set_cons_succ]
    have ih:=mU G i A B (by simpa using h)
    refine List.Perm.trans ?_ (ih.append_left C)
    rw [←List.append_assoc,←List.append_assoc];exact (List.perm_append_comm).append_right _
theorem aA.nil (w:World):aA w [] w []:=aE.nil w
theorem aA.refl {w:World} {L:List Chunk} (h:Hp w L):aA w L w [L]:=by unfold aA;simpa using aE.refl h
theorem aA.kept {w w1 w2:World} {L:List Chunk} {G:List (List Chunk)} (h:aA w L w1 G) (k:di [] w1 w2):aA w L w2 G:=aE.kept h k
theorem aA.on {w w1 w2:World} {L:List Chunk} {G:List (List Chunk)} (h:aA w L w1 G) (i:Nat) {A B:List Chunk} (hi:G[i]?=some A) (k:aE w1 A w2 B):aA w L w2 (G.set i B):=
  aE.perm (aE.frame (aE.perm h (jm G i A hi)) k) (mU G i A B hi)
theorem aA.new {w w1 w2:World} {L:List Chunk} {G:List (List Chunk)} (h:aA w L w1 G) {B:List Chunk} (k:aE w1 [] w2 B):aA w L w2 (B::G):=by
  have:=aE.frame (A:=[]) (B:=B) (M:=G.flatten) h k
  simpa [aA] using this
theorem aA.im {w w1 w2:World} {L:List Chunk} {G:List (List Chunk)} (h:aA w L w1 G) {B:List Chunk} (k:aE w1 [] w2 B):aA w L w2 (G++[B]):=by
  refine aE.perm (h.new k) ?_
  simp only [List.flatten_cons,List.flatten_append,List.flatten_nil,List.append_nil]
  exact List.perm_append_comm
theorem aA.call {w w1 w2:World} {L:List Chunk} {G:List (List Chunk)} (h:aA w L w1 G) (k:aE w1 [] w2 []):aA w L w2 G:=by
  have:=aE.frame (A:=[]) (B:=[]) (M:=G.flatten) h k
  simpa [aA] using this
theorem aA.ag {w w':World} {L:List Chunk} {G:List (List Chunk)} (h:aA w L w' G):aE w L w' []:=aE.ag h
theorem aA.one {w w':World} {L A:List Chunk} {G:List (List Chunk)} (h:aA w L w' G) (i:Nat) (hi:G[i]?=some A):aE w L w' A:=
  aE.drop h (List.sublist_flatten_of_mem (List.mem_of_getElem? hi))
theorem aA.of {w w':World} {L M:List Chunk} {G:List (List Chunk)} (h:aE w L w' M) (e:G.flatten=M):aA w L w' G:=by unfold aA;rw [e];exact h
theorem aA.keep {w w':World} {L:List Chunk} {G:List (List Chunk)} (h:aA w L w' G):di (dI L) w w':=aE.keep h
theorem aA.oG {w w':World} {G:List (List Chunk)} (h:aA w [] w' G):di [] w w':=aE.keep h
theorem aA.cB {w w':World} {L A:List Chunk} {G:List (List Chunk)} (h:aA w L w' G) (i:Nat) (hi:G[i]?=some A):Hp w' A:=
  (Hp.perm (aE.hp h) (jm G i A hi)).left
theorem aA.drop {w w':World} {L:List Chunk} {G:List (List Chunk)} (h:aA w L w' G) (i:Nat):aA w L w' (G.set i []):=by
  cases hi:G[i]? with
  | none=>rw [List.set_eq_of_length_le (by simpa using hi)];exact h
  | some A=>exact aE.drop (aE.perm h (jm G i A hi)) (List.sublist_append_right _ _)
def bm (g:Nat) (cs:Array Value) (e:TypeId):Chunk:=
  ⟨[g],fun w=>w.heap[g]?=some (.cells cs e (0,0)),fun w w' h k=>(h g (by simp)).trans k,fun w g' hg k=>by simp at hg;subst hg;exact lh k,fun _ _=>by simp⟩
theorem Mo {v:Value} {e:TypeId} {sz n:Nat} {vs:List Value} (w w':World) (h:∀g,g∈v.ownBlock.toList→w'.heap[g]?=w.heap[g]?) (k:w.ownsRow 0 e sz v n vs):w'.ownsRow 0 e sz v n vs:=by
  refine ⟨k.1,?_⟩
  rcases k.2 with h1|⟨g,cap,cur,rfl,h2,h3,h4⟩
  · exact .inl h1
  · exact .inr ⟨g,cap,cur,rfl,h2,(h g (by simp [Value.ownBlock])).trans h3,h4⟩
theorem Xg {v:Value} {e:TypeId} {sz n:Nat} {vs:List Value} (w:World) (g:Nat) (hg:g∈v.ownBlock.toList) (k:w.ownsRow 0 e sz v n vs):g<w.heap.size:=by
  rcases k.2 with ⟨rfl,_⟩|⟨g',cap,cur,rfl,h2,h3,h4⟩
  · simp [Value.ownBlock] at hg
  · simp [Value.ownBlock] at hg;subst hg;exact lh h3
def row (v:Value) (e:TypeId) (sz n:Nat) (vs:List Value):Chunk:=
  ⟨v.ownBlock.toList,fun w=>w.ownsRow 0 e sz v n vs,Mo,Xg,fun _ _=>by cases v.ownBlock<;>simp⟩
theorem Hp.bm {w:World} {g:Nat} {cs:Array Value} {e:TypeId} {L:List Chunk} (h:Hp w L) (hm:bm g cs e∈L):w.heap[g]?=some (.cells cs e (0,0)):=h.holds _ hm
theorem nO {w:World} {v:Value} {e:TypeId} {sz n:Nat} {vs:List Value} (h:(row v e sz n vs).holds w):w.ownsRow 0 e sz v n vs:=h
theorem p6 {w:World} {v:Value} {e:TypeId} {sz n:Nat} {vs:List Value} (h:w.ownsRow 0 e sz v n vs):(row v e sz n vs).holds w:=h
def many (L:List Chunk):Chunk:=⟨dI L,fun w=>Hp w L,
  fun w w' h k=>⟨fun c hc=>c.loc w w' (fun g hg=>h g (iA.2 ⟨c,hc,hg⟩)) (k.holds c hc),k.nodup⟩,fun w g hg k=>k.lt hg,fun _ k=>k.nodup⟩
theorem fF (L M:List Chunk):dI (many L::M)=dI (L++M):=by simp [dI,many]
theorem gM {w:World} {L M:List Chunk} :Hp w (many L::M)↔Hp w (L++M):=by
  constructor
  · intro h
    refine ⟨fun c hc=>?_,by rw [←fF];exact h.nodup⟩
    rcases List.mem_append.1 hc with h1|h1
    · exact (h.holds (many L) (by simp):Hp w L).holds c h1
    · exact h.holds c (by simp [h1])
  · intro h
    refine ⟨fun c hc=>?_,by rw [fF];exact h.nodup⟩
    rcases List.mem_cons.1 hc with rfl|h1
    · exact h.left
    · exact h.holds c (List.mem_append_right _ h1)
theorem L5 {w:World} {v:Value} {e:TypeId} {sz n:Nat} {vs:List Value} (h:w.ownsRow 0 e sz v n vs):∃a c,v= .slice a n c:=by
  rcases h.2 with ⟨rfl,rfl⟩|⟨g,cap,cur,rfl,_⟩
  · exact ⟨none,0,rfl⟩
  · exact ⟨_,cap,rfl⟩
def Rd (w:World) (v:Value) (sz n:Nat) (vs:List Value):Prop:=
  ∃A cap,v= .slice A n cap∧vs.length=n*sz∧n≤9223372036854775807∧∀j u,vs[j]?=some u→∃ad,A=some ad∧w.cell? (ad.add j)=some u
theorem ND (ad:Addr) (j:Nat):(ad.add j).block=ad.block:=by unfold Addr.add;split<;>rfl
def Value.Jq:Value→Option Nat
  | .slice (some a) _ _=>some a.block
  | _=>none
theorem Rd.keep {w w':World} {v:Value} {sz n:Nat} {vs:List Value} {S:List Nat} (h:Rd w v sz n vs) (k:di S w w') (hS:∀g,Value.Jq v=some g→g∉S):Rd w' v sz n vs:=by
  obtain ⟨A,cap,rfl,h1,h2,h3⟩:=h
  refine ⟨A,cap,rfl,h1,h2,fun j u hj=>?_⟩
  obtain ⟨ad,rfl,hc⟩:=h3 j u hj
  exact ⟨ad,rfl,k.cell hc (by rw [ND];exact hS _ rfl)⟩
theorem Rd.kept {w w':World} {v:Value} {sz n:Nat} {vs:List Value} (h:Rd w v sz n vs) (k:di [] w w'):Rd w' v sz n vs:=h.keep k (by simp)
theorem Rd.at {w w':World} {v:Value} {sz n:Nat} {vs:List Value} {G:List (List Chunk)} (h:Rd w v sz n vs) (k:aA w [] w' G):Rd w' v sz n vs:=h.keep k.keep (by simp [dI])
theorem Rd.len {w:World} {v:Value} {sz n:Nat} {vs:List Value} (h:Rd w v sz n vs):vs.length=n*sz:=by obtain ⟨_,_,_,h,_⟩:=h;exact h
theorem Ca {w:World} {b:Nat} {v:Value} {e:TypeId} {sz n:Nat} {vs:List Value} (h:w.ownsRow b e sz v n vs):Rd w v sz n vs:=by
  have h0:=h
  obtain ⟨h1,h2⟩:=h
  rcases h2 with ⟨rfl,rfl⟩|⟨g,cap,cur,rfl,_,h3,h4,h5,h6,h7⟩
  · exact ⟨none,0,rfl,h1,by omega,fun j u hj=>by
      have:j<vs.length:=(List.getElem?_eq_some_iff.1 hj).1
      omega⟩
  · exact ⟨_,cap,rfl,h1,by simp only [maxLen] at h5;omega,fun j u hj=>⟨_,rfl,h0.cells (g:=g) rfl j u hj⟩⟩
theorem aA.own {w w':World} {L:List Chunk} {G:List (List Chunk)} {v:Value} {e:TypeId} {sz n:Nat} {vs:List Value} (h:aA w L w' G) (i:Nat) (hi:G[i]?=some [row v e sz n vs]):w'.ownsRow 0 e sz v n vs:=
  nO ((h.cB i hi).holds _ (by simp))
theorem aA.rd {w w':World} {L:List Chunk} {G:List (List Chunk)} {v:Value} {e:TypeId} {sz n:Nat} {vs:List Value} (h:aA w L w' G) (i:Nat) (hi:G[i]?=some [row v e sz n vs]):Rd w' v sz n vs:=
  Ca (h.own i hi)
theorem aA.bm {w w':World} {L:List Chunk} {G:List (List Chunk)} {g:Nat} {cs:Array Value} {e:TypeId} (h:aA w L w' G) (i:Nat) (hi:G[i]?=some [bm g cs e]):w'.heap[g]?=some (.cells cs e (0,0)):=
  (h.cB i hi).bm (by simp)
theorem aE.alloc (w:World) (cs:Array Value) (e:TypeId):aE w [] (w.alloc (.cells cs e)) [Sx.bm w.heap.size cs e]:=by
  refine ⟨⟨fun c hc=>?_,by simp [dI,Sx.bm]⟩,⟨rfl,rfl,rfl,by simp,fun k hk _=>RowKit.Below.heap_alloc w _ k hk⟩,fun g hg=>?_⟩
  · simp only [List.mem_singleton] at hc;subst hc
    exact heap_alloc_new w _
  · simp [dI,Sx.bm] at hg;omega
theorem aE.setCell {w:World} {g:Nat} {cs:Array Value} {e:TypeId} (h:w.heap[g]?=some (.cells cs e (0,0))) (off:Nat) (u:Value):
    aE w [Sx.bm g cs e] (w.setCell ⟨g,off,none⟩ u) [Sx.bm g (cs.setIfInBounds off u) e]:=by
  have cX:=lh h
  refine ⟨⟨fun c hc=>?_,by simp [dI,Sx.bm]⟩,⟨rfl,rfl,rfl,by simp [World.setCell],fun k hk hs=>?_⟩,fun g' hg=>?_⟩
  · simp only [List.mem_singleton] at hc;subst hc
    show (w.setCell ⟨g,off,none⟩ u).heap[g]?=_
    simp [World.setCell,Array.getElem?_modify,h]
  · exact RowKit.Below.heap_setCell _ _ _ _ (by intro e';subst e';simp [dI,Sx.bm] at hs)
  · left;simpa [dI,Sx.bm] using hg
abbrev Uu2 {w:World} {L:List Chunk} {v:World} {q0 q1:Chunk} :Prop:=aA w L v [[q0],[q1]]
abbrev Uu3 {w:World} {L:List Chunk} {v:World} {q0 q1 q2:Chunk} :Prop:=aA w L v [[q0],[q1],[q2]]
abbrev Uu3x1 {w:World} {L:List Chunk} {v:World} {q0 q1 q2:Chunk} :Prop:=aA w L v [[q0],[q1],[q2],[]]
abbrev Uu4 {w:World} {L:List Chunk} {v:World} {q0 q1 q2 q3:Chunk} :Prop:=aA w L v [[q0],[q1],[q2],[q3]]
abbrev Uu4x1 {w:World} {L:List Chunk} {v:World} {q0 q1 q2 q3:Chunk} :Prop:=aA w L v [[q0],[q1],[q2],[q3],[]]
abbrev Uu4x2 {w:World} {L:List Chunk} {v:World} {q0 q1 q2 q3:Chunk} :Prop:=aA w L v [[q0],[q1],[q2],[q3],[],[]]
abbrev Uu5 {w:World} {L:List Chunk} {v:World} {q0 q1 q2 q3 q4:Chunk} :Prop:=aA w L v [[q0],[q1],[q2],[q3],[q4]]
abbrev Uu5x1 {w:World} {L:List Chunk} {v:World} {q0 q1 q2 q3 q4:Chunk} :Prop:=aA w L v [[q0],[q1],[q2],[q3],[q4],[]]
abbrev Uu6 {w:World} {L:List Chunk} {v:World} {q0 q1 q2 q3 q4 q5:Chunk} :Prop:=aA w L v [[q0],[q1],[q2],[q3],[q4],[q5]]
abbrev Uu6x1 {w:World} {L:List Chunk} {v:World} {q0 q1 q2 q3 q4 q5:Chunk} :Prop:=aA w L v [[q0],[q1],[q2],[q3],[q4],[q5],[]]
abbrev Uu6x2 {w:World} {L:List Chunk} {v:World} {q0 q1 q2 q3 q4 q5:Chunk} :Prop:=aA w L v [[q0],[q1],[q2],[q3],[q4],[q5],[],[]]
abbrev Uu6x4 {w:World} {L:List Chunk} {v:World} {q0 q1 q2 q3 q4 q5:Chunk} :Prop:=aA w L v [[q0],[q1],[q2],[q3],[q4],[q5],[],[],[],[]]
abbrev Uu7 {w:World} {L:List Chunk} {v:World} {q0 q1 q2 q3 q4 q5 q6:Chunk} :Prop:=aA w L v [[q0],[q1],[q2],[q3],[q4],[q5],[q6]]
abbrev Uu7x2 {w:World} {L:List Chunk} {v:World} {q0 q1 q2 q3 q4 q5 q6:Chunk} :Prop:=aA w L v [[q0],[q1],[q2],[q3],[q4],[q5],[q6],[],[]]
abbrev Uu8 {w:World} {L:List Chunk} {v:World} {q0 q1 q2 q3 q4 q5 q6 q7:Chunk} :Prop:=aA w L v [[q0],[q1],[q2],[q3],[q4],[q5],[q6],[q7]]
abbrev Uu9x1 {w:World} {L:List Chunk} {v:World} {q0 q1 q2 q3 q4 q5 q6 q7 q8:Chunk} :Prop:=aA w L v [[q0],[q1],[q2],[q3],[q4],[q5],[q6],[q7],[q8],[]]
abbrev Uu9x2 {w:World} {L:List Chunk} {v:World} {q0 q1 q2 q3 q4 q5 q6 q7 q8:Chunk} :Prop:=aA w L v [[q0],[q1],[q2],[q3],[q4],[q5],[q6],[q7],[q8],[],[]]
abbrev Uu10 {w:World} {L:List Chunk} {v:World} {q0 q1 q2 q3 q4 q5 q6 q7 q8 q9:Chunk} :Prop:=aA w L v [[q0],[q1],[q2],[q3],[q4],[q5],[q6],[q7],[q8],[q9]]
abbrev Uu11 {w:World} {L:List Chunk} {v:World} {q0 q1 q2 q3 q4 q5 q6 q7 q8 q9 q10:Chunk} :Prop:=aA w L v [[q0],[q1],[q2],[q3],[q4],[q5],[q6],[q7],[q8],[q9],[q10]]
abbrev Uu11x1 {w:World} {L:List Chunk} {v:World} {q0 q1 q2 q3 q4 q5 q6 q7 q8 q9 q10:Chunk} :Prop:=aA w L v [[q0],[q1],[q2],[q3],[q4],[q5],[q6],[q7],[q8],[q9],[q10],[]]
abbrev Uu12x2 {w:World} {L:List Chunk} {v:World} {q0 q1 q2 q3 q4 q5 q6 q7 q8 q9 q10 q11:Chunk} :Prop:=aA w L v [[q0],[q1],[q2],[q3],[q4],[q5],[q6],[q7],[q8],[q9],[q10],[q11],[],[]]
abbrev Uu12x3 {w:World} {L:List Chunk} {v:World} {q0 q1 q2 q3 q4 q5 q6 q7 q8 q9 q10 q11:Chunk} :Prop:=aA w L v [[q0],[q1],[q2],[q3],[q4],[q5],[q6],[q7],[q8],[q9],[q10],[q11],[],[],[]]
abbrev Uu13 {w:World} {L:List Chunk} {v:World} {q0 q1 q2 q3 q4 q5 q6 q7 q8 q9 q10 q11 q12:Chunk} :Prop:=aA w L v [[q0],[q1],[q2],[q3],[q4],[q5],[q6],[q7],[q8],[q9],[q10],[q11],[q12]]
abbrev Uu14 {w:World} {L:List Chunk} {v:World} {q0 q1 q2 q3 q4 q5 q6 q7 q8 q9 q10 q11 q12 q13:Chunk} :Prop:=aA w L v [[q0],[q1],[q2],[q3],[q4],[q5],[q6],[q7],[q8],[q9],[q10],[q11],[q12],[q13]]
abbrev Env:=List (Nat×Value)
def look:Env→Nat→Option Value
  | [],_=>none
  | (k,v)::r,t=>match Nat.beq k t with|true=>some v|false=>look r t
theorem dL (k:Nat) (v:Value) (r:Env):look ((k,v)::r) k=some v:=by simp [look]
theorem dy {k t:Nat} (v:Value) (r:Env) (h:k≠t):look ((k,v)::r) t=look r t:=by
  have:Nat.beq k t=false:=by
    cases hb:Nat.beq k t
    · rfl
    · exact absurd (Nat.eq_of_beq_eq_true hb) h
  simp [look,this]
structure du (n:Nat) (a:Act) (Γ:Env):Prop where
  size:a.tmps.size=n
  defers:a.defers=[]
  slot:∀t v,look Γ t=some v→a.tmps.getD t undef=v
def ev (Γ:Env):Operand→Option Value
  | .tmp t=>look Γ t
  | .const v=>some v
  | .global g=>some (.pointer (some ⟨g,0,none⟩))
  | .func f=>some (.func (.func f) #[] #[])
def Nf (Γ:Env):List Operand→Option (List Value)
  | []=>some []
  | x::r=>match ev Γ x,Nf Γ r with|some v,some l=>some (v::l)|_,_=>none
def NJ (ρ:Operand→Value) (Γ:Env):Prop:=∀x v,ev Γ x=some v→ρ x=v
theorem NJ.Nf {ρ:Operand→Value} {Γ:Env} (h:NJ ρ Γ):∀(l:List Operand) (vs:List Value),Sx.Nf Γ l=some vs→l.map ρ=vs
  | [],vs,e=>by simp [Sx.Nf] at e;simp [e]
  | x::r,vs,e=>by
    simp only [Sx.Nf] at e
    split at e
    · rename_i v l hv hl
      simp only [Option.some.injEq] at e
      subst e
      simp [h x v hv,h.Nf r l hl]
    · cases e
theorem du.ev {n:Nat} {a:Act} {Γ:Env} (h:du n a Γ):NJ a.eval Γ:=by
  intro x v e
  cases x with
  | tmp t=>exact h.slot t v e
  | const u=>simpa [Sx.ev,Act.eval] using e
  | global g=>simpa [Sx.ev,Act.eval] using e
  | func f=>simpa [Sx.ev,Act.eval] using e
theorem du.put {n:Nat} {a:Act} {Γ:Env} (h:du n a Γ) {d:Nat} (hd:Nat.blt d n=true) (v:Value):du n (a.put (some d) v) ((d,v)::Γ):=by
  have Yc:d<a.tmps.size:=by rw [h.size];exact of_eq_true (Eq.trans Nat.blt_eq.symm (eq_true hd))
  refine ⟨by simp [Act.put,h.size],by simp [Act.put,h.defers],fun t u e=>?_⟩
  by_cases ht:d=t
  · subst ht
    rw [dL] at e
    simp only [Option.some.injEq] at e
    subst e
    simp [Act.put,Array.getD_eq_getD_getElem?,Yc]
  · rw [dy v Γ ht] at e
    have:=h.slot t u e
    simp only [Array.getD_eq_getD_getElem?] at this
    simp [Act.put,Array.getD_eq_getD_getElem?,ht,this]
theorem du.Xe {n:Nat} {a:Act} {Γ:Env} (h:du n a Γ) (v:Value):du n (a.put none v) Γ:=h
theorem du.sub {n:Nat} {a:Act} {Γ Γ':Env} (h:du n a Γ) (hs:∀t v,look Γ' t=some v→look Γ t=some v):du n a Γ':=
  ⟨h.size,h.defers,fun t v e=>h.slot t v (hs t v e)⟩
def pick (Γ:Env):List Nat→Env
  | []=>[]
  | t::r=>match look Γ t with|some v=>(t,v)::pick Γ r|none=>pick Γ r
theorem uk (Γ:Env):∀(ks:List Nat) (t:Nat) (v:Value),look (pick Γ ks) t=some v→look Γ t=some v
  | [],t,v,e=>by simp [pick,look] at e
  | k::ks,t,v,e=>by
    simp only [pick] at e
    split at e
    · rename_i u hu
      by_cases hk:k=t
      · subst hk;rw [dL] at e;rw [hu];exact e
      · rw [dy u _ hk] at e;exact uk Γ ks t v e
    · exact uk Γ ks t v e
theorem du.pick {n:Nat} {a:Act} {Γ:Env} (h:du n a Γ) (ks:List Nat):du n a (pick Γ ks):=h.sub (uk Γ ks)
def ex (ρ:Operand→Value) (op:Op) (ty:TypeId):Sem Next:=execOp ρ { dst:=none,op,type:=ty,pos:= "",after:= #[],guard:=none }
theorem Wp (ρ:Operand→Value) (d:Option Tmp) (op:Op) (ty:TypeId) (pos:String) (after:Array Edge) (guard:Option (Nat×Bool)):
    execOp ρ { dst:=d,op,type:=ty,pos,after,guard } =ex ρ op ty:=rfl
def bj (R:Value→World→Prop):Ending→World→Prop:=fun e w=>∃v,e= .returned v∧R v w
theorem bj.calls {P:Program} {f:FuncId} {args:Array Value} {w:World} {R R':Value→World→Prop} (h:Calls P f args w (bj R)) (k:∀v w',R v w'→R' v w'):Calls P f args w (bj R'):=
  h.mono fun _ w' ⟨v,e,hr⟩=>⟨v,e,k v w' hr⟩
def az (P:Program) (Γ:Env) (w:World) (op:Op) (ty:TypeId) (K:Value→World→Prop):Prop:=
  ∀ρ,NJ ρ Γ→match (ex ρ op ty).run P w with
    | .ok (.value v) w'=>K v w'
    | .ok .skip w'=>K undef w'
    | .ok (.enter f args) w'=>Calls P f args w' (bj K)
    | _=>False
theorem az.mono {P:Program} {Γ:Env} {w:World} {op:Op} {ty:TypeId} {K K':Value→World→Prop} (h:az P Γ w op ty K) (k:∀v w',K v w'→K' v w'):az P Γ w op ty K':=by
  intro ρ hρ
  have:=h ρ hρ
  split at this
  · exact k _ _ this
  · exact k _ _ this
  · exact bj.calls this k
  · exact this.elim
theorem az.of_run {P:Program} {Γ:Env} {w w':World} {op:Op} {ty:TypeId} {K:Value→World→Prop} {v:Value} (h:∀ρ,NJ ρ Γ→(ex ρ op ty).run P w= .ok (.value v) w') (k:K v w'):az P Γ w op ty K:=by
  intro ρ hρ
  rw [h ρ hρ]
  exact k
theorem az.sx {P:Program} {Γ:Env} {w w':World} {op:Op} {ty:TypeId} {K:Value→World→Prop} (h:∀ρ,NJ ρ Γ→(ex ρ op ty).run P w= .ok .skip w') (k:K undef w'):az P Γ w op ty K:=by
  intro ρ hρ
  rw [h ρ hρ]
  exact k
theorem az.wpR {P:Program} {Γ:Env} {w:World} {K:Value→World→Prop} {a:Act} {ρ:Operand→Value} {o:Oper} (h:az P Γ w o.op o.type K) (hρ:NJ ρ Γ) (he:execOp a.eval o=execOp ρ o)
    {next:Act→World→Prop} {Q:Exit→Act→World→Prop} (k:∀v w',K v w'→next (a.put o.dst v) w'):Oper.wp P o a w next Q:=by
  have:=h ρ hρ
  unfold Oper.wp
  rw [he]
  cases o
  rw [Wp]
  split at this<;>rename_i hr<;>simp only [hr,Oper.upon]
  · exact k _ _ this
  · exact k _ _ this
  · exact this.mono fun e w' ⟨v,he,hv⟩=>by subst he;exact k v w' hv
  · exact this.elim
theorem az.wp {P:Program} {Γ:Env} {w:World} {op:Op} {ty:TypeId} {K:Value→World→Prop} (h:az P Γ w op ty K) {n:Nat} {a:Act} (ha:du n a Γ)
    {d:Option Tmp} {pos:String} {after:Array Edge} {guard:Option (Nat×Bool)} {next:Act→World→Prop} {Q:Exit→Act→World→Prop}
    (k:∀v w',K v w'→next (a.put d v) w'):Oper.wp P { dst:=d,op,type:=ty,pos,after,guard } a w next Q:=by
  have:=h a.eval ha.ev
  unfold Oper.wp
  rw [Wp]
  split at this<;>rename_i hr<;>simp only [hr,Oper.upon]
  · exact k _ _ this
  · exact k _ _ this
  · exact this.mono fun e w' ⟨v,he,hv⟩=>by subst he;exact k v w' hv
  · exact this.elim
section
variable (P:Program) (n:Nat)
def W (c:Code) (Q:Exit→Act→World→Prop) (Γ:Env) (w:World):Prop:=∀a,du n a Γ→c.wp P Q a w
def WL (ops:Array Oper) (Q:Exit→Act→World→Prop) (l:List Oper) (Γ:Env) (w:World):Prop:=∀a,du n a Γ→wpList P ops Q l a w
def X (Q:Exit→Act→World→Prop) (e:Exit) (Γ:Env) (w:World):Prop:=∀a,du n a Γ→Q e a w
end
section
variable {P:Program} {n:Nat} {ops:Array Oper} {Q:Exit→Act→World→Prop} {Γ:Env} {w:World} {rest:List Oper}
theorem WL.op {d:Nat} {op:Op} {ty:TypeId} {pos:String} {after:Array Edge} (hd:Nat.blt d n=true)
    (h:az P Γ w op ty fun v w'=>WL P n ops Q rest ((d,v)::Γ) w'):WL P n ops Q ({ dst:=some d,op,type:=ty,pos,after,guard:=none } ::rest) Γ w:=
  fun a ha=>by
    unfold wpList
    rw [if_pos (by rfl)]
    exact .inl (h.wp ha fun v w' k=>k _ (ha.put hd v))
theorem WL.op0 {op:Op} {ty:TypeId} {pos:String} {after:Array Edge}
    (h:az P Γ w op ty fun _ w'=>WL P n ops Q rest Γ w'):WL P n ops Q ({ dst:=none,op,type:=ty,pos,after,guard:=none } ::rest) Γ w:=
  fun a ha=>by
    unfold wpList
    rw [if_pos (by rfl)]
    exact .inl (h.wp ha fun v w' k=>k _ (ha.Xe v))
theorem G6 {a:Act} (ha:du n a Γ) {j t:Nat} {b:Bool} (hj:(ops[j]?).bind (·.dst)=some t) (hv:look Γ t=some (.bool b)):yielded ops a.tmps j=some b:=by
  have h:=ha.slot t _ hv
  rw [Array.getD_eq_getD_getElem?] at h
  unfold yielded
  rw [hj]
  simp only [Option.bind_some]
  cases hx:a.tmps[t]? with
  | none=>rw [hx] at h;simp [undef] at h
  | some u=>rw [hx] at h;simp at h;subst h;rfl
theorem pT {a:Act} (ha:du n a Γ) {o:Oper} {j t:Nat} {want b:Bool} (hg:o.guard=some (j,want)) (hj:(ops[j]?).bind (·.dst)=some t) (hv:look Γ t=some (.bool b)):
    Region.wanted o (yielded ops a.tmps)=(b==want):=by
  unfold Region.wanted
  rw [hg]
  simp only [G6 ha hj hv]
  cases b<;>cases want<;>rfl
theorem rW {a:Act} (ha:du n a Γ) {o:Oper} {j t:Nat} {want:Bool} (hg:o.guard=some (j,want)) (hj:(ops[j]?).bind (·.dst)=some t) (hv:look Γ t=some undef):
    Region.wanted o (yielded ops a.tmps)=false:=by
  have h:=ha.slot t _ hv
  rw [Array.getD_eq_getD_getElem?] at h
  have:yielded ops a.tmps j=none:=by
    unfold yielded
    rw [hj]
    simp only [Option.bind_some]
    cases hx:a.tmps[t]? with
    | none=>rfl
    | some u=>rw [hx] at h;simp at h;subst h;rfl
  unfold Region.wanted
  rw [hg]
  simp only [this]
  rfl
theorem WL.opU {d:Nat} {op:Op} {ty:TypeId} {pos:String} {after:Array Edge} {j t:Nat} {want:Bool} (hj:(ops[j]?).bind (·.dst)=some t) (hv:look Γ t=some undef) (hd:Nat.blt d n=true)
    (h:WL P n ops Q rest ((d,undef)::Γ) w):WL P n ops Q ({ dst:=some d,op,type:=ty,pos,after,guard:=some (j,want) } ::rest) Γ w:=
  fun a ha=>by
    unfold wpList
    rw [if_neg (by rw [rW ha rfl hj hv];simp)]
    exact h _ (ha.put hd undef)
theorem WL.afY {op:Op} {ty:TypeId} {pos:String} {after:Array Edge} {j t:Nat} {want:Bool} (hj:(ops[j]?).bind (·.dst)=some t) (hv:look Γ t=some undef)
    (h:WL P n ops Q rest Γ w):WL P n ops Q ({ dst:=none,op,type:=ty,pos,after,guard:=some (j,want) } ::rest) Γ w:=
  fun a ha=>by
    unfold wpList
    rw [if_neg (by rw [rW ha rfl hj hv];simp)]
    exact h _ ha
theorem WL.opG {d:Nat} {op:Op} {ty:TypeId} {pos:String} {after:Array Edge} {j t:Nat} {want:Bool} (hj:(ops[j]?).bind (·.dst)=some t) (hv:look Γ t=some (.bool want)) (hd:Nat.blt d n=true)
    (h:az P Γ w op ty fun v w'=>WL P n ops Q rest ((d,v)::Γ) w'):WL P n ops Q ({ dst:=some d,op,type:=ty,pos,after,guard:=some (j,want) } ::rest) Γ w:=
  fun a ha=>by
    unfold wpList
    rw [if_pos (by rw [pT ha rfl hj hv];simp)]
    exact .inl (h.wp ha fun v w' k=>k _ (ha.put hd v))
theorem WL.opN {d:Nat} {op:Op} {ty:TypeId} {pos:String} {after:Array Edge} {j t:Nat} {want b:Bool} (hj:(ops[j]?).bind (·.dst)=some t) (hv:look Γ t=some (.bool b)) (hb:(b==want)=false) (hd:Nat.blt d n=true)
    (h:WL P n ops Q rest ((d,undef)::Γ) w):WL P n ops Q ({ dst:=some d,op,type:=ty,pos,after,guard:=some (j,want) } ::rest) Γ w:=
  fun a ha=>by
    unfold wpList
    rw [if_neg (by rw [pT ha rfl hj hv,hb];simp)]
    exact h _ (ha.put hd undef)
theorem WL.afZ {op:Op} {ty:TypeId} {pos:String} {after:Array Edge} {j t:Nat} {want b:Bool} (hj:(ops[j]?).bind (·.dst)=some t) (hv:look Γ t=some (.bool b)) (hb:(b==want)=false)
    (h:WL P n ops Q rest Γ w):WL P n ops Q ({ dst:=none,op,type:=ty,pos,after,guard:=some (j,want) } ::rest) Γ w:=
  fun a ha=>by
    unfold wpList
    rw [if_neg (by rw [pT ha rfl hj hv,hb];simp)]
    exact h _ (ha.Xe undef)
theorem du.bool {a:Act} {t:Nat} {p:Prop} [Decidable p] (ha:du n a Γ) (ht:look Γ t=some (.bool (decide p))) {b:Bool} (hb:decide p=b):du n a ((t,.bool b)::Γ):=
  ha.sub fun u v e=>by
    by_cases hu:t=u
    · subst hu;rw [dL] at e;rw [ht,hb];exact e
    · rwa [dy _ _ hu] at e
theorem WL.part {l:List Oper} (t:Nat) {p:Prop} [Decidable p] (ht:look Γ t=some (.bool (decide p))) (h1:p→WL P n ops Q l ((t,.bool true)::Γ) w) (h2:¬p→WL P n ops Q l ((t,.bool false)::Γ) w):WL P n ops Q l Γ w:=
  fun a ha=>by
    by_cases hp:p
    · exact h1 hp a (ha.bool ht (by simp [hp]))
    · exact h2 hp a (ha.bool ht (by simp [hp]))
theorem WL.done (h:X n Q .normal Γ w):WL P n ops Q [] Γ w:=fun a ha=>h a ha
theorem W.region {id:Nat} {l:List Oper} (h:WL P n l.toArray Q l Γ w):W P n (.region id l.toArray false) Q Γ w:=fun a ha=>wp_region_lit (h a ha)
theorem W.seq {x y:Code} (h:W P n x (Exit.then (y.wp P Q) Q) Γ w):W P n (.seq x y) Q Γ w:=fun a ha=>wp_seq (h a ha)
theorem W.skip (h:X n Q .normal Γ w):W P n .skip Q Γ w:=fun a ha=>wp_skip (h a ha)
theorem W.ret (h:X n Q .ret Γ w):W P n .ret Q Γ w:=fun a ha=>wp_ret (h a ha)
theorem W.exit {id:Nat} (h:X n Q (.exit id) Γ w):W P n (.exit id) Q Γ w:=fun a ha=>wp_exit (h a ha)
theorem W.block {id:Nat} {c:Code} (h:W P n c (Exit.inBlock id Q) Γ w):W P n (.block id c) Q Γ w:=fun a ha=>wp_block (h a ha)
theorem W.ift {c:Operand} {x y:Code} (hc:ev Γ c=some (.bool true)) (h:W P n x Q Γ w):W P n (.cond c x y) Q Γ w:=fun a ha=>wp_cond_true (ha.ev _ _ hc) (h a ha)
theorem W.iff {c:Operand} {x y:Code} (hc:ev Γ c=some (.bool false)) (h:W P n y Q Γ w):W P n (.cond c x y) Q Γ w:=fun a ha=>wp_cond_false (ha.ev _ _ hc) (h a ha)
theorem W.ite {c:Operand} {x y:Code} {p:Prop} [Decidable p] (hc:ev Γ c=some (.bool (decide p))) (h1:p→W P n x Q Γ w) (h2:¬p→W P n y Q Γ w):W P n (.cond c x y) Q Γ w:=
  fun a ha=>wp_cond_split (ha.ev _ _ hc) (fun h=>h1 (of_decide_eq_true h) a ha) (fun h=>h2 (of_decide_eq_false h) a ha)
theorem W.pick {c:Code} (ks:List Nat) {Γ':Env} (e:Sx.pick Γ ks=Γ') (h:W P n c Q Γ' w):W P n c Q Γ w:=fun a ha=>h a (e▸ha.pick ks)
theorem W.loop {c:Code} (I:Nat→Env→World→Prop) (m:Nat) (h0:I m Γ w)
    (round:∀m Γ w,I m Γ w→W P n c (Exit.then (fun a' w'=>∃m',m'<m∧∃Γ',du n a' Γ'∧I m' Γ' w') Q) Γ w):W P n (.loop c) Q Γ w:=by
  intro a ha
  refine wp_loop_ghost (fun k a w=>∃Γ,du n a Γ∧I k Γ w) m ⟨Γ,ha,h0⟩ ?_
  rintro k a w ⟨Γ,ha,hI⟩
  exact round k Γ w hI a ha
theorem X.AJ {y:Code} (h:W P n y Q Γ w):X n (Exit.then (y.wp P Q) Q) .normal Γ w:=h
theorem X.Dl {id:Nat} (h:X n Q .normal Γ w):X n (Exit.inBlock id Q) .normal Γ w:=h
theorem W.cut {x y:Code} (I:Env→World→Prop) (h1:W P n x (Exit.then (fun a' w'=>∃Γ',du n a' Γ'∧I Γ' w') Q) Γ w) (h2:∀Γ w,I Γ w→W P n y Q Γ w):W P n (.seq x y) Q Γ w:=
  fun a ha=>wp_seq (wp_mono (h1 a ha) fun e a' w' hq=>by
    cases e with
    | normal=>obtain ⟨Γ',hA,hI⟩:=hq;exact h2 Γ' w' hI a' hA
    | exit id=>exact hq
    | goto l=>exact hq
    | ret=>exact hq
    | panic ch=>exact hq
    | outgrown=>exact hq)
end
def oW:Nat→List Value→Env
  | _,[]=>[]
  | k,v::r=>(k,v)::oW (k+1) r
theorem vp:∀(l:List Value) (k t:Nat) (v:Value),look (oW k l) t=some v→k≤t∧l[t-k]?=some v
  | [],k,t,v,e=>by simp [oW,look] at e
  | u::l,k,t,v,e=>by
    by_cases h:k=t
    · subst h;simp only [oW] at e;rw [dL] at e;simpa using e
    · simp only [oW] at e
      rw [dy _ _ h] at e
      obtain ⟨h1,h2⟩:=vp l (k+1) t v e
      refine ⟨by omega,?_⟩
      rw [show t-k=(t-(k+1))+1 by omega]
      simpa using h2
theorem y4 {P:Program} {f:FuncId} {fn:Func} {c:Code} {args:List Value} {w:World} {R:Value→World→Prop} {m:Nat}
    (hf:P.funcs[f]?=some fn) (hb:fn.body=some c) (hm:fn.ntmps=m) (hl:Nat.ble args.length m=true) (h:W P m c (bodyPost P fn (bj R)) (oW 0 args) w):Calls P f args.toArray w (bj R):=by
  refine calls_of_wp hf hb (h _ ⟨?_,rfl,?_⟩)
  · have:=Nat.le_of_ble_eq_true hl
    simp [hm];omega
  · intro t v e
    obtain ⟨_,h2⟩:=vp args 0 t v e
    simp only [Nat.sub_zero] at h2
    have cX:t<args.length:=(List.getElem?_eq_some_iff.1 h2).1
    rw [Array.getD_eq_getD_getElem?,Array.getElem?_append_left (by simpa using cX)]
    simp [h2]
theorem X.afT {P:Program} {fn:Func} {n:Nat} {Γ:Env} {w:World} {R:Value→World→Prop} {t:Nat} (hr:fn.results= #[.tmp t]) {v:Value} (hv:look Γ t=some v) (h:R v w):X n (bodyPost P fn (bj R)) .ret Γ w:=
  fun a ha=>bodyPost_ret (results_tmp hr _ _ _) ha.defers ⟨_,rfl,by rw [ha.slot t v hv];exact h⟩
theorem X.afS {P:Program} {fn:Func} {n:Nat} {Γ:Env} {w:World} {R:Value→World→Prop} {t u:Nat} (hr:fn.results= #[.tmp t,.tmp u]) {v1 v2:Value} (h1:look Γ t=some v1) (h2:look Γ u=some v2) (h:R (.tuple #[v1,v2]) w):X n (bodyPost P fn (bj R)) .ret Γ w:=
  fun a ha=>bodyPost_ret (results_tmp2 hr _ _ _) ha.defers ⟨_,rfl,by rw [ha.slot t v1 h1,ha.slot u v2 h2];exact h⟩
theorem X.afR {P:Program} {fn:Func} {n:Nat} {Γ:Env} {w:World} {R:Value→World→Prop} {t u s:Nat} (hr:fn.results= #[.tmp t,.tmp u,.tmp s]) {v1 v2 v3:Value} (h1:look Γ t=some v1) (h2:look Γ u=some v2) (h3:look Γ s=some v3) (h:R (.tuple #[v1,v2,v3]) w):X n (bodyPost P fn (bj R)) .ret Γ w:=
  fun a ha=>bodyPost_ret (v:= .tuple #[v1,v2,v3]) (by simp only [results,hr];have e1:=ha.slot t v1 h1;have e2:=ha.slot u v2 h2;have e3:=ha.slot s v3 h3;simp only [Array.getD_eq_getD_getElem?] at e1 e2 e3;simp [e1,e2,e3]) ha.defers ⟨_,rfl,h⟩
theorem X.aia {P:Program} {fn:Func} {n:Nat} {Γ:Env} {w:World} {R:Value→World→Prop} (hr:fn.results= #[]) (h:R (.tuple #[]) w):X n (bodyPost P fn (bj R)) .normal Γ w:=
  fun _ ha=>bodyPost_end (results_none hr _ _ _) ha.defers ⟨_,rfl,h⟩
theorem X.afU {P:Program} {fn:Func} {n:Nat} {Γ:Env} {w:World} {R:Value→World→Prop} (hr:fn.results= #[]) (h:R (.tuple #[]) w):X n (bodyPost P fn (bj R)) .ret Γ w:=
  fun _ ha=>bodyPost_ret (results_none hr _ _ _) ha.defers ⟨_,rfl,h⟩
def lV:TypeDesc→Bool| .struct _| .array _ _=>true|_=>false
def cp (P:Program) (t:TypeId):Option (Nat×Nat×Option Value):=(P.info? t).map fun i=>(i.size,i.bytes,i.zero)
def nz (P:Program) (t:TypeId) (f:Nat):Option (Nat×Nat×Bool):=
  match P.underlying t with
  | some (.struct fs)=>match fs[f]? with
    | some fd=>match P.info? fd.type,P.underlying fd.type with
      | some i,some d=>some (fd.offset,i.size,lV d)
      | _,_=>none
    | none=>none
  | _=>none
section
variable {P:Program} {w:World} {t:TypeId}
theorem kZ {s b:Nat} {z:Option Value} (h:cp P t=some (s,b,z)):∃i,P.info? t=some i∧i.size=s∧i.bytes=b∧i.zero=z:=by
  unfold cp at h
  cases hi:P.info? t with
  | none=>rw [hi] at h;simp at h
  | some i=>rw [hi] at h;simp at h;exact ⟨i,rfl,h.1,h.2.1,h.2.2⟩
theorem ko {s b:Nat} {z:Option Value} (h:cp P t=some (s,b,z)):(sizeOf t).run P w= .ok s w:=by
  obtain ⟨i,hi,rfl,_,_⟩:=kZ h
  simp [sizeOf,typeInfo,hi]
theorem sk {s b:Nat} {z:Value} (h:cp P t=some (s,b,some z)):(zeroValue t).run P w= .ok z w:=by
  obtain ⟨i,hi,_,_,hz⟩:=kZ h
  simp [zeroValue,typeInfo,hi,hz]
theorem k7 {d:TypeDesc} (h:P.underlying t=some d):(isAgg t).run P w= .ok (lV d) w:=by
  unfold isAgg
  simp only [Sem.run_bind,run_underlying h,Result.andThen_ok]
  cases d<;>rfl
end
section
variable {P:Program} {Γ:Env} {w:World} {ty:TypeId} {K:Value→World→Prop}
theorem YZ {x:Operand} {v:Value} (hx:ev Γ x=some v) (k:K v w):az P Γ w (.move x) ty K:=
  az.of_run (fun ρ hρ=>by simp [ex,execOp,hρ x v hx]) k
theorem Rw {x:Operand} {v:Value} (hx:ev Γ x=some v) (k:K v w):az P Γ w (.assign x) ty K:=
  az.of_run (fun ρ hρ=>by simp [ex,execOp,hρ x v hx]) k
theorem yS {x:Operand} {ad:Addr} (hx:ev Γ x=some (.pointer (some ad))) (k:K (.pointer (some ad)) w):az P Γ w (.nilCheck x) ty K:=
  az.of_run (fun ρ hρ=>by simp [ex,execOp,hρ x _ hx]) k
theorem Gb {x:Operand} {f:FuncId} {a b:Array Value} (hx:ev Γ x=some (.func (.func f) a b)) (k:K (.func (.func f) a b) w):az P Γ w (.nilCheck x) ty K:=
  az.of_run (fun ρ hρ=>by simp [ex,execOp,hρ x _ hx]) k
theorem YV {c x y:Operand} {b:Bool} {v:Value} (hc:ev Γ c=some (.bool b)) (hv:(match b with|true=>ev Γ x|false=>ev Γ y)=some v) (k:K v w):az P Γ w (.pick c x y) ty K:=
  az.of_run (fun ρ hρ=>by
    cases b
    · simp [ex,execOp,hρ c _ hc,hρ y _ hv,asBool]
    · simp [ex,execOp,hρ c _ hc,hρ x _ hv,asBool]) k
theorem Nn {x:Operand} {i:Nat} {vs:Array Value} {v:Value} (hx:ev Γ x=some (.tuple vs)) (hv:vs[i]?=some v) (k:K v w):az P Γ w (.extract x i) ty K:=
  az.of_run (fun ρ hρ=>by simp [ex,execOp,hρ x _ hx,Instr.extract,hv]) k
theorem Rk {t:TypeId} {x:Operand} {ad:Addr} {d:TypeDesc} {v:Value} (ht:P.underlying t=some d) (hd:lV d=false) (hx:ev Γ x=some (.pointer (some ad))) (hc:w.cell? ad=some v) (k:K v w):az P Γ w (.load t x) ty K:=
  az.of_run (fun ρ hρ=>by
    simp only [ex,execOp,hρ x _ hx,Instr.loadAt,Instr.sureAddr,loadVar]
    simp [k7 ht,hd,load,Sem.run,hc]) k
theorem jt {g:Nat} {cs:Array Value} {e:TypeId} (h:w.heap[g]?=some (.cells cs e (0,0))) (off:Nat):w.cell? ⟨g,off,none⟩=cs[off]?:=by simp [World.cell?,h]
theorem La {t:TypeId} {x:Operand} {g off:Nat} {cs:Array Value} {e:TypeId} {d:TypeDesc} {v:Value} (ht:P.underlying t=some d) (hd:lV d=false) (hx:ev Γ x=some (.pointer (some ⟨g,off,none⟩)))
    (hb:w.heap[g]?=some (.cells cs e (0,0))) (hv:cs[off]?=some v) (k:K v w):az P Γ w (.load t x) ty K:=
  Rk ht hd hx (by rw [jt hb];exact hv) k
theorem Lb {t:TypeId} {x:Operand} {ad:Addr} {d:TypeDesc} {s b:Nat} {z:Option Value} {cs:List Value} (ht:P.underlying t=some d) (hd:lV d=true) (hs:cp P t=some (s,b,z)) (hx:ev Γ x=some (.pointer (some ad)))
    (hl:cs.length=s) (hc:∀j u,cs[j]?=some u→w.cell? (ad.add j)=some u) (k:K (.agg cs.toArray) w):az P Γ w (.load t x) ty K:=
  az.of_run (fun ρ hρ=>by
    simp only [ex,execOp,hρ x _ hx,Instr.loadAt,Instr.sureAddr,loadVar]
    subst hl
    simp [k7 ht,hd,ko hs,run_loadCells_list (P:=P) (w:=w) ad cs hc]) k
theorem mw (g off j:Nat):(⟨g,off,none⟩:Addr).add j=⟨g,off+j,none⟩:=by unfold Addr.add;split<;>simp_all
theorem Rj {t:TypeId} {x:Operand} {g off:Nat} {cs:Array Value} {e:TypeId} {d:TypeDesc} {s b:Nat} {z:Option Value} (us:List Value) (ht:P.underlying t=some d) (hd:lV d=true) (hs:cp P t=some (s,b,z)) (hx:ev Γ x=some (.pointer (some ⟨g,off,none⟩)))
    (hb:w.heap[g]?=some (.cells cs e (0,0))) (hl:us.length=s) (hc:(cs.toList.drop off).take s=us) (k:K (.agg us.toArray) w):az P Γ w (.load t x) ty K:=
  Lb ht hd hs hx hl (fun j u hj=>by
    rw [mw,jt hb]
    rw [←hc,List.getElem?_take] at hj
    split at hj
    · simpa using hj
    · cases hj) k
def bP:Value→Nat→Value
  | .slice (some a) _ _,j=> .pointer (some (a.add j))
  | _,_=> .nilFunc
theorem Rd.ptr {v:Value} {sz n:Nat} {vs:List Value} (h:Rd w v sz n vs) {j:Nat} {u:Value} (hj:vs[j]?=some u):∃ad,bP v j= .pointer (some (ad.add j))∧w.cell? (ad.add j)=some u∧∃c,v= .slice (some ad) n c:=by
  obtain ⟨A,cap,rfl,_,_,h3⟩:=h
  obtain ⟨ad,rfl,hc⟩:=h3 j u hj
  exact ⟨ad,rfl,hc,cap,rfl⟩
theorem vG {t e:TypeId} {x ix:Operand} {v:Value} {kd:IntKind} {i:Int} {sz b n:Nat} {z:Option Value} {vs:List Value} (ht:P.underlying t=some (.slice e)) (hs:cp P e=some (sz,b,z))
    (hx:ev Γ x=some v) (hi:ev Γ ix=some (.int kd i)) (hr:Rd w v sz n vs) (h0:0≤i) (h1:i<n) (hz:0<sz) (k:K (bP v (i.toNat*sz)) w):az P Γ w (.indexAddr t x ix) ty K:=
  az.of_run (fun ρ hρ=>by
    have cX:i.toNat*sz<vs.length:=by
      rw [hr.len]
      exact Nat.mul_lt_mul_of_pos_right oz hz
    obtain ⟨ad,he,_,c,hv⟩:=hr.ptr (List.getElem?_eq_getElem cX)
    subst hv
    simp only [ex,execOp,hρ x _ hx,hρ ix _ hi,Instr.indexAt,asIntOf]
    simp [run_underlying ht,ko hs,h0,h1,bP]) k
theorem K9 {t:TypeId} {x:Operand} {v:Value} {j sz n:Nat} {vs:List Value} {d:TypeDesc} {u:Value} (ht:P.underlying t=some d) (hd:lV d=false) (hx:ev Γ x=some (bP v j)) (hr:Rd w v sz n vs) (hj:vs[j]?=some u) (k:K u w):az P Γ w (.load t x) ty K:=by
  obtain ⟨ad,he,hc,_⟩:=hr.ptr hj
  exact Rk ht hd (he▸hx) hc k
theorem add_add (a:Addr) (i j:Nat):(a.add i).add j=a.add (i+j):=by
  unfold Addr.add
  split<;>split<;>split<;>simp_all<;>omega
theorem Gc {t:TypeId} {x:Operand} {v:Value} {j sz n s b:Nat} {z:Option Value} {vs:List Value} {d:TypeDesc} (us:List Value) (ht:P.underlying t=some d) (hd:lV d=true) (hs:cp P t=some (s,b,z)) (hx:ev Γ x=some (bP v j)) (hr:Rd w v sz n vs)
    (hl:us.length=s) (hp:0<s) (hc:(vs.drop j).take s=us) (k:K (.agg us.toArray) w):az P Γ w (.load t x) ty K:=by
  have iP:∀i u,us[i]?=some u→vs[j+i]?=some u:=fun i u hi=>by
    rw [←hc,List.getElem?_take] at hi
    split at hi
    · simpa using hi
    · cases hi
  have h0:us[0]?=some us[0]:=List.getElem?_eq_getElem oz
  obtain ⟨ad,he,_,c,hv⟩:=hr.ptr (iP 0 _ h0)
  refine Lb ht hd hs (ad:=ad.add j) (by rw [hx,←Nat.add_zero j,he]) hl (fun i u hi=>?_) k
  obtain ⟨ad',he',GV,c',hv'⟩:=hr.ptr (iP i u hi)
  rw [hv] at hv'
  injection hv' with e1
  injection e1 with e1
  subst e1
  rw [add_add];exact GV
theorem xE {fd:Field} {i:TypeInfo} (hs:P.info? fd.type=some i) (hz:i.size≠0) (ad:Addr):(fieldPlace ad fd).run P w= .ok (ad.add fd.offset) w:=by
  simp [fieldPlace,sizeOf,typeInfo,hs,hz]
theorem vH {t:TypeId} {x:Operand} {f off s:Nat} {g:Bool} {ad:Addr} (hf:nz P t f=some (off,s,g)) (hs:Nat.beq s 0=false) (hx:ev Γ x=some (.pointer (some ad))) (k:K (.pointer (some (ad.add off))) w):az P Γ w (.fieldAddr t x f) ty K:=
  az.of_run (fun ρ hρ=>by
    unfold nz at hf
    split at hf
    · rename_i fs hu
      split at hf
      · rename_i fd wN
        split at hf
        · rename_i i d hi hd
          simp only [Option.some.injEq,Prod.mk.injEq] at hf
          obtain ⟨rfl,rfl,_⟩:=hf
          have hz:i.size≠0:=by intro e;rw [e] at hs;simp at hs
          simp only [ex,execOp,hρ x _ hx,Instr.fieldAt,Instr.sureAddr]
          simp [run_underlying hu,wN,xE hi hz]
        · cases hf
      · cases hf
    · cases hf) k
theorem CX {t:TypeId} {x:Operand} {f off s:Nat} {a:Bool} {g o:Nat} (hf:nz P t f=some (off,s,a)) (hs:Nat.beq s 0=false) (hx:ev Γ x=some (.pointer (some ⟨g,o,none⟩))) (k:K (.pointer (some ⟨g,o+off,none⟩)) w):az P Γ w (.fieldAddr t x f) ty K:=
  vH hf hs hx (by rw [mw];exact k)
theorem CW {t:TypeId} {x:Operand} {f off s:Nat} {a:Bool} {v:Value} {j n sz:Nat} {vs:List Value} {u:Value} (hf:nz P t f=some (off,s,a)) (hs:Nat.beq s 0=false) (hx:ev Γ x=some (bP v j)) (hr:Rd w v sz n vs) (hj:vs[j]?=some u) (k:K (bP v (j+off)) w):az P Γ w (.fieldAddr t x f) ty K:=by
  obtain ⟨ad,he,_,c,rfl⟩:=hr.ptr hj
  exact vH hf hs (he▸hx) (by simpa [bP,add_add] using k)
theorem UN {t:TypeId} {x:Operand} {f off s:Nat} {cs:Array Value} {v:Value} (hf:nz P t f=some (off,s,false)) (hx:ev Γ x=some (.agg cs)) (hv:cs[off]?=some v) (k:K v w):az P Γ w (.field t x f) ty K:=
  az.of_run (fun ρ hρ=>by
    unfold nz at hf
    split at hf
    · rename_i fs hu
      split at hf
      · rename_i fd wN
        split at hf
        · rename_i i d hi hd
          simp only [Option.some.injEq,Prod.mk.injEq] at hf
          obtain ⟨rfl,rfl,hg⟩:=hf
          simp only [ex,execOp,hρ x _ hx,Instr.field,asAgg,part]
          simp [run_underlying hu,wN,k7 hd,hg,hv]
        · cases hf
      · cases hf
    · cases hf) k
theorem Rt {t:TypeId} {x:Operand} {f off s:Nat} {cs:Array Value} {us:Array Value} (hf:nz P t f=some (off,s,true)) (hx:ev Γ x=some (.agg cs)) (hv:cs.extract off (off+s)=us) (k:K (.agg us) w):az P Γ w (.field t x f) ty K:=
  az.of_run (fun ρ hρ=>by
    unfold nz at hf
    split at hf
    · rename_i fs hu
      split at hf
      · rename_i fd wN
        split at hf
        · rename_i i d hi hd
          simp only [Option.some.injEq,Prod.mk.injEq] at hf
          obtain ⟨rfl,rfl,hg⟩:=hf
          simp only [ex,execOp,hρ x _ hx,Instr.field,asAgg,part]
          simp [run_underlying hu,wN,k7 hd,hg,sizeOf,typeInfo,hi,hv]
        · cases hf
      · cases hf
    · cases hf) k
theorem Hm {ad:Addr} {v vk:Value} (h1:v.oneCell'=true) (hc:w.cell? ad=some vk) (hf:w.frozen? ad=false):(store ad v).run P w= .ok () (w.setCell ad v):=by
  rw [run_store P w ad v _ h1,hc]
  simp [hf]
theorem Nu {v:Value} (h1:v.oneCell'=true):v.cells= #[v]:=by cases v<;>simp_all [Value.oneCell',Value.cells]
theorem K7 {t:TypeId} {x y:Operand} {ad:Addr} {b:Nat} {z:Option Value} {v vk:Value} (hs:cp P t=some (1,b,z)) (hx:ev Γ x=some (.pointer (some ad))) (hy:ev Γ y=some v) (h1:v.oneCell'=true)
    (hc:w.cell? ad=some vk) (hf:w.frozen? ad=false) (k:K undef (w.setCell ad v)):az P Γ w (.store t x y) ty K:=
  az.sx (fun ρ hρ=>by
    simp only [ex,execOp,hρ x _ hx,hρ y _ hy,Instr.storeAt,Instr.sureAddr,storeVar,Nu h1]
    have h0:ad.add 0=ad:=by simp [Addr.add]
    simp [ko hs,storeCells,h0,Hm h1 hc hf]) k
theorem Ga {t:TypeId} {x y:Operand} {g off b:Nat} {cs:Array Value} {e:TypeId} {z:Option Value} {v:Value} (hs:cp P t=some (1,b,z)) (hx:ev Γ x=some (.pointer (some ⟨g,off,none⟩))) (hy:ev Γ y=some v) (h1:v.oneCell'=true)
    (hb:w.heap[g]?=some (.cells cs e (0,0))) (hl:Nat.blt off cs.size=true) (k:∀w',aE w [bm g cs e] w' [bm g (cs.setIfInBounds off v) e]→K undef w'):az P Γ w (.store t x y) ty K:=by
  have IE:off<cs.size:=of_eq_true (Eq.trans Nat.blt_eq.symm (eq_true hl))
  exact K7 hs hx hy h1 (vk:=cs[off]) (by rw [jt hb];exact Array.getElem?_eq_getElem IE) (by simp [World.frozen?,hb]) (k _ (aE.setCell hb off v))
theorem aE.setRow {g:Nat} {cs UX:Array Value} {e:TypeId} (h:w.heap[g]?=some (.cells cs e (0,0))):aE w [bm g cs e] (w.setRow g UX) [bm g UX e]:=by
  refine ⟨⟨fun c hc=>?_,by simp [dI,Sx.bm]⟩,⟨rfl,rfl,rfl,by simp [World.setRow],fun k hk hs=>?_⟩,fun g' hg=>?_⟩
  · simp only [List.mem_singleton] at hc;subst hc
    show (w.setRow g UX).heap[g]?=_
    simp [World.setRow,Array.getElem?_modify,h]
  · have:k≠g:=by intro e';subst e';simp [dI,Sx.bm] at hs
    simp [World.setRow,Array.getElem?_modify,Ne.symm this]
  · left;simpa [dI,Sx.bm] using hg
theorem Nj {t:TypeId} {x y:Operand} {g off s b:Nat} {cs:Array Value} {us:List Value} {e:TypeId} {z:Option Value} (hs:cp P t=some (s,b,z)) (hx:ev Γ x=some (.pointer (some ⟨g,off,none⟩))) (hy:ev Γ y=some (.agg us.toArray)) (hl:us.length=s)
    (h1:us.all (·.oneCell')=true) (hb:w.heap[g]?=some (.cells cs e (0,0))) (hle:Nat.ble (off+us.length) cs.size=true) {UX:Array Value} (hc:(cs.toList.take off++us++cs.toList.drop (off+us.length)).toArray=UX)
    (k:∀w',aE w [bm g cs e] w' [bm g UX e]→K undef w'):az P Γ w (.store t x y) ty K:=
  az.sx (w':=w.setRow g UX) (fun ρ hρ=>by
    simp only [ex,execOp,hρ x _ hx,hρ y _ hy,Instr.storeAt,Instr.sureAddr,storeVar,Value.cells]
    have:=run_storeCells_at P g off e us 0 cs w hb (by simpa using Nat.le_of_ble_eq_true hle) (by simpa using h1)
    simp only [Nat.add_zero,hc] at this
    simp [ko hs,hl,this]) (k _ (aE.setRow hb))
theorem TG {v:Value} {e:TypeId} {sz n:Nat} {vs:List Value} (h:w.ownsRow 0 e sz v n vs) {j:Nat} (hj:j<vs.length) (u:Value):
    ∃ad vk,bP v j= .pointer (some ad)∧w.cell? ad=some vk∧w.frozen? ad=false∧aE w [row v e sz n vs] (w.setCell ad u) [row v e sz n (vs.set j u)]:=by
  obtain ⟨h1,h2⟩:=h
  rcases h2 with ⟨rfl,rfl⟩|⟨g,cap,cur,rfl,_,h3,h4,h5,h6,h7⟩
  · omega
  · have cX:j<cur.size:=by
      have:vs.length≤cur.size:=by rw [←h7];simp;omega
      omega
    refine ⟨⟨g,j,none⟩,cur[j],by simp [bP,mw],by rw [jt h3];exact Array.getElem?_eq_getElem cX,by simp [World.frozen?,h3],?_⟩
    refine ⟨⟨fun c hc=>?_,by simp [dI,row,Value.ownBlock]⟩,⟨rfl,rfl,rfl,by simp [World.setCell],fun k hk hs=>?_⟩,fun g' hg=>?_⟩
    · simp only [List.mem_singleton] at hc;subst hc
      refine ⟨by simpa using h1,.inr ⟨g,cap,cur.setIfInBounds j u,rfl,Nat.zero_le _,by simp [World.setCell,Array.getElem?_modify,h3],h4,h5,by simp [h6],?_⟩⟩
      rw [←h7]
      simp only [Array.toList_setIfInBounds]
      have hjn:j<n*sz:=by omega
      apply List.ext_getElem?
      intro i
      simp only [List.getElem?_take,List.getElem?_set,List.length_take]
      by_cases hi:i<n*sz
      · by_cases cN:j=i
        · subst cN;simp [hi,cX];omega
        · simp [hi,cN]
      · have:j≠i:=by omega
        simp [hi,this]
    · exact RowKit.Below.heap_setCell _ _ _ _ (by intro e';subst e';simp [dI,row,Value.ownBlock] at hs)
    · left;simpa [dI,row] using hg
theorem F9 {t:TypeId} {x y:Operand} {v:Value} {e:TypeId} {j sz n b:Nat} {vs:List Value} {z:Option Value} {u:Value} (hs:cp P t=some (1,b,z)) (hx:ev Γ x=some (bP v j)) (hy:ev Γ y=some u) (h1:u.oneCell'=true)
    (ho:w.ownsRow 0 e sz v n vs) (hj:j<vs.length) (k:∀w',aE w [row v e sz n vs] w' [row v e sz n (vs.set j u)]→K undef w'):az P Γ w (.store t x y) ty K:=by
  obtain ⟨ad,vk,he,hc,hf,hu⟩:=TG ho hj u
  exact K7 hs (he▸hx) hy h1 hc hf (k _ hu)
theorem JP {k:IntKind} {x:Int} (h:(if k.signed then-(2^(k.bits-1):Int) else 0)≤x∧x≤k.max):k.wrap x=x:=by
  cases k<;>simp only [IntKind.signed,IntKind.bits,IntKind.max,IntKind.wrap,if_true,Bool.false_eq_true,if_false,Bool.true_and,Bool.false_and] at* <;>(try split)<;>simp_all<;>omega
theorem wrap_i64 {x:Int} (h: -9223372036854775808≤x) (h':x≤9223372036854775807):IntKind.i64.wrap x=x:=JP (by simpa [IntKind.signed,IntKind.bits,IntKind.max] using ⟨h,h'⟩)
theorem mf {op:BinOp} {xt yt:TypeId} {x y:Operand} {kd:IntKind} {a b:Int} (r:Int) (hx:ev Γ x=some (.int kd a)) (hy:ev Γ y=some (.int kd b))
    (hr:(match op with| .add=>some (kd.wrap (a+b))| .sub=>some (kd.wrap (a-b))| .mul=>some (kd.wrap (a*b))|_=>none)=some r) (k:K (.int kd r) w):az P Γ w (.binOp op xt x y yt) ty K:=
  az.of_run (fun ρ hρ=>by
    cases op<;>simp only [reduceCtorEq,Option.some.injEq] at hr<;>subst hr<;>
    simp [ex,execOp,hρ x _ hx,hρ y _ hy,eqGuard,binOp,Op.intArith]) k
theorem adM {xt yt:TypeId} {x y:Operand} {a b:Int} (hx:ev Γ x=some (.int .i64 a)) (hy:ev Γ y=some (.int .i64 b)) (h: -9223372036854775808≤a+b) (h':a+b≤9223372036854775807) (k:K (.int .i64 (a+b)) w):az P Γ w (.binOp .add xt x y yt) ty K:=
  mf (a+b) hx hy (by rw [wrap_i64 h h']) k
theorem adI {xt yt:TypeId} {x y:Operand} {a b:Int} (hx:ev Γ x=some (.int .i64 a)) (hy:ev Γ y=some (.int .i64 b)) (h: -9223372036854775808≤a-b) (h':a-b≤9223372036854775807) (k:K (.int .i64 (a-b)) w):az P Γ w (.binOp .sub xt x y yt) ty K:=
  mf (a-b) hx hy (by rw [wrap_i64 h h']) k
theorem adK {xt yt:TypeId} {x y:Operand} {a b:Int} (hx:ev Γ x=some (.int .i64 a)) (hy:ev Γ y=some (.int .i64 b)) (h: -9223372036854775808≤a*b) (h':a*b≤9223372036854775807) (k:K (.int .i64 (a*b)) w):az P Γ w (.binOp .mul xt x y yt) ty K:=
  mf (a*b) hx hy (by rw [wrap_i64 h h']) k
def Ld:BinOp→Int→Int→Option Bool
  | .eql,a,b=>some (decide (a=b))
  | .neq,a,b=>some (decide (a≠b))
  | .lss,a,b=>some (decide (a<b))
  | .leq,a,b=>some (decide (a≤b))
  | .gtr,a,b=>some (decide (a>b))
  | .geq,a,b=>some (decide (a≥b))
  | _,_,_=>none
theorem Ru {op:BinOp} {xt yt:TypeId} {x y:Operand} {kd:IntKind} {a b:Int} (r:Bool) (hx:ev Γ x=some (.int kd a)) (hy:ev Γ y=some (.int kd b)) (hr:Ld op a b=some r) (k:K (.bool r) w):az P Γ w (.binOp op xt x y yt) ty K:=
  az.of_run (fun ρ hρ=>by
    cases op<;>simp only [Ld,reduceCtorEq,Option.some.injEq] at hr<;>subst hr<;>
    simp [ex,execOp,hρ x _ hx,hρ y _ hy,eqGuard,binOp,Op.intCmp]<;>(try (by_cases h:a=b<;>simp [h]))) k
theorem toList_inj {a b:ByteArray} :(a.toList==b.toList)=decide (a=b):=by
  by_cases h:a=b
  · subst h;simp
  · have:a.toList≠b.toList:=fun e=>h (by
      have h2:a.data.toList=b.data.toList:=by rw [←ByteArray.toList_eq,←ByteArray.toList_eq,e]
      cases a;cases b;simp only [ByteArray.mk.injEq];exact Array.ext' h2)
    simp [h,this]
theorem UL {xt yt:TypeId} {x y:Operand} {a b:ByteArray} (hx:ev Γ x=some (.string a)) (hy:ev Γ y=some (.string b)) (k:K (.bool (decide (a=b))) w):az P Γ w (.binOp .eql xt x y yt) ty K:=
  az.of_run (fun ρ hρ=>by simp [ex,execOp,hρ x _ hx,hρ y _ hy,eqGuard,binOp,Op.stringOp,toList_inj]) k
theorem UK {xt yt:TypeId} {x y:Operand} {a b:ByteArray} (hx:ev Γ x=some (.string a)) (hy:ev Γ y=some (.string b)) (k:K (.bool (decide (a≠b))) w):az P Γ w (.binOp .neq xt x y yt) ty K:=
  az.of_run (fun ρ hρ=>by simp [ex,execOp,hρ x _ hx,hρ y _ hy,eqGuard,binOp,Op.stringOp,toList_inj]) k
theorem run_equal_bool {t:TypeId} (ht:P.underlying t=some .bool) (a b:Bool) (d:Nat):(Op.equalIn (d+1) t (.bool a) (.bool b)).run P w= .ok (a==b) w:=by
  simp [Op.equalIn,run_underlying ht]
theorem zO {t e:TypeId} (ht:P.underlying t=some (.slice e)) (a:aO) (n c d:Nat):(Op.equalIn (d+1) t (.slice a n c) (.slice none 0 0)).run P w= .ok (decide (a=none)) w:=by
  cases a<;>simp [Op.equalIn,run_underlying ht]
theorem tS {t:TypeId} {x y:Value} {r:Bool} (h:∀d,(Op.equalIn (d+1) t x y).run P w= .ok r w):(Op.equal t x y).run P w= .ok r w:=h 9999
theorem Rv {xt yt:TypeId} {x y:Operand} {a b:Bool} (ht:P.underlying xt=some .bool) (hx:ev Γ x=some (.bool a)) (hy:ev Γ y=some (.bool b)) (k:K (.bool (decide (a=b))) w):az P Γ w (.binOp .eql xt x y yt) ty K:=
  az.of_run (fun ρ hρ=>by
    have:=tS (w:=w) (fun d=>run_equal_bool (w:=w) ht a b d)
    simp [ex,execOp,hρ x _ hx,hρ y _ hy,eqGuard,binOp,this];cases a<;>cases b<;>rfl) k
theorem pH {xt yt:TypeId} {x y:Operand} {a b:Bool} (ht:P.underlying xt=some .bool) (hx:ev Γ x=some (.bool a)) (hy:ev Γ y=some (.bool b)) (k:K (.bool (decide (a≠b))) w):az P Γ w (.binOp .neq xt x y yt) ty K:=
  az.of_run (fun ρ hρ=>by
    have:=tS (w:=w) (fun d=>run_equal_bool (w:=w) ht a b d)
    simp [ex,execOp,hρ x _ hx,hρ y _ hy,eqGuard,binOp,this];cases a<;>cases b<;>rfl) k
theorem yR {xt yt e:TypeId} {x:Operand} {a:aO} {n c:Nat} (ht:P.underlying xt=some (.slice e)) (hx:ev Γ x=some (.slice a n c)) (k:K (.bool (decide (a=none))) w):az P Γ w (.binOp .eql xt x (.const (.slice none 0 0)) yt) ty K:=
  az.of_run (fun ρ hρ=>by
    have hc:ρ (.const (.slice none 0 0))= .slice none 0 0:=hρ _ _ rfl
    have:=tS (w:=w) (fun d=>zO (w:=w) ht a n c d)
    simp [ex,execOp,hρ x _ hx,hc,eqGuard,binOp,this]) k
theorem Wr {xt:TypeId} {x:Operand} {p:Prop} [Decidable p] (hx:ev Γ x=some (.bool (decide p))) (k:K (.bool (decide (¬p))) w):az P Γ w (.unOp .not xt x) ty K:=
  az.of_run (fun ρ hρ=>by simp [ex,execOp,hρ x _ hx,Op.unary]) k
theorem YX {xt:TypeId} {x:Operand} {b:Bool} (hx:ev Γ x=some (.bool b)) (k:K (.bool (!b)) w):az P Γ w (.unOp .not xt x) ty K:=
  az.of_run (fun ρ hρ=>by simp [ex,execOp,hρ x _ hx,Op.unary]) k
theorem Rg {xt yt:TypeId} {x y:Operand} {a b:Int} (hx:ev Γ x=some (.int .i64 a)) (hy:ev Γ y=some (.int .i64 b)) (h0:0≤a) (hb:0<b) (h':a≤9223372036854775807) (k:K (.int .i64 (a/b)) w):az P Γ w (.binOp .quo xt x y yt) ty K:=
  az.of_run (fun ρ hρ=>by
    have h1:a.tdiv b=a/b:=Int.tdiv_eq_ediv_of_nonneg h0
    have h2:0≤a/b:=Int.ediv_nonneg h0 oz
    have h3:a/b≤a:=Int.ediv_le_self _ h0
    have DI:b≠0:=by omega
    simp [ex,execOp,hρ x _ hx,hρ y _ hy,eqGuard,binOp,Op.intDiv,DI,h1,wrap_i64 (x:=a/b) oz oz]) k
theorem adJ {xt yt:TypeId} {x y:Operand} {kd:IntKind} {a b:Int} (hx:ev Γ x=some (.int kd a)) (hy:ev Γ y=some (.int kd b)) (hb:b≠0) (k:K (.int kd (a.tmod b)) w):az P Γ w (.binOp .rem xt x y yt) ty K:=
  az.of_run (fun ρ hρ=>by simp [ex,execOp,hρ x _ hx,hρ y _ hy,eqGuard,binOp,Op.intDiv,hb]) k
theorem Rf {xt yt:TypeId} {x y:Operand} {kd:IntKind} {a b:Int} (hx:ev Γ x=some (.int kd a)) (hy:ev Γ y=some (.int kd b)) (h0:0≤a) (hb:0<b) (k:K (.int kd (a%b)) w):az P Γ w (.binOp .rem xt x y yt) ty K:=
  adJ hx hy oz (by rw [Int.tmod_eq_emod_of_nonneg h0];exact k)
theorem uF {op:BinOp} {xt yt:TypeId} {x y:Operand} {kd:IntKind} {a b:Int} (r:Int) (hx:ev Γ x=some (.int kd a)) (hy:ev Γ y=some (.int kd b))
    (hr:(match op with
      | .and=>some (kd.wrap (BitVec.ofInt kd.bits a&&&BitVec.ofInt kd.bits b).toNat)
      | .or=>some (kd.wrap (BitVec.ofInt kd.bits a|||BitVec.ofInt kd.bits b).toNat)
      | .xor=>some (kd.wrap (BitVec.ofInt kd.bits a^^^BitVec.ofInt kd.bits b).toNat)
      | .andNot=>some (kd.wrap (BitVec.ofInt kd.bits a&&& ~~~BitVec.ofInt kd.bits b).toNat)
      | _=>none)=some r) (k:K (.int kd r) w):az P Γ w (.binOp op xt x y yt) ty K:=
  az.of_run (fun ρ hρ=>by
    cases op<;>simp only [reduceCtorEq,Option.some.injEq] at hr<;>subst hr<;>
    simp [ex,execOp,hρ x _ hx,hρ y _ hy,eqGuard,binOp,Op.intBits]) k
theorem Wq {xt yt:TypeId} {x y:Operand} {kd ky:IntKind} {a b:Int} (hx:ev Γ x=some (.int kd a)) (hy:ev Γ y=some (.int ky b)) (hb:0≤b) (k:K (.int kd (kd.wrap (a*2^(min b.toNat kd.bits)))) w):az P Γ w (.binOp .shl xt x y yt) ty K:=
  az.of_run (fun ρ hρ=>by
    have:¬b<0:=by omega
    simp [ex,execOp,hρ x _ hx,hρ y _ hy,eqGuard,binOp,Op.shift,this]) k
theorem Re {xt yt:TypeId} {x y:Operand} {kd ky:IntKind} {a b:Int} (hx:ev Γ x=some (.int kd a)) (hy:ev Γ y=some (.int ky b)) (hb:0≤b) (k:K (.int kd (a.fdiv (2^(min b.toNat kd.bits)))) w):az P Γ w (.binOp .shr xt x y yt) ty K:=
  az.of_run (fun ρ hρ=>by
    have:¬b<0:=by omega
    simp [ex,execOp,hρ x _ hx,hρ y _ hy,eqGuard,binOp,Op.shift,this]) k
theorem I3 {src dst:TypeId} {x:Operand} {kd ks:IntKind} {ds:TypeDesc} {a:Int} (hs:P.underlying src=some ds) (hd:P.underlying dst=some (.int kd)) (hx:ev Γ x=some (.int ks a)) (k:K (.int kd (kd.wrap a)) w):az P Γ w (.convert src dst x) ty K:=
  az.of_run (fun ρ hρ=>by simp [ex,execOp,hρ x _ hx,convert,run_underlying hs,run_underlying hd,Conv.intToInt]) k
theorem UO {src dst:TypeId} {x:Operand} {kd ks:IntKind} {ds:TypeDesc} {a:Int} (hs:P.underlying src=some ds) (hd:P.underlying dst=some (.int kd)) (hx:ev Γ x=some (.int ks a)) (h:(if kd.signed then-(2^(kd.bits-1):Int) else 0)≤a∧a≤kd.max) (k:K (.int kd a) w):az P Γ w (.convert src dst x) ty K:=
  I3 hs hd hx (by rw [JP h];exact k)
theorem Y0 {x:Operand} {t e:TypeId} {a:aO} {n c:Nat} (ht:P.underlying t=some (.slice e)) (hx:ev Γ x=some (.slice a n c)) (k:K (.int .i64 n) w):az P Γ w (.call { callee:= .builtin .len,args:= #[x],argTypes:= #[t] }) ty K:=
  az.of_run (fun ρ hρ=>by simp [ex,execOp,hρ x _ hx,resolve,invoke,builtin,Builtin.len_,run_underlying ht,goInt]) k
theorem Rl {x:Operand} {t:TypeId} {s:ByteArray} (ht:P.underlying t=some .string) (hx:ev Γ x=some (.string s)) (k:K (.int .i64 s.size) w):az P Γ w (.call { callee:= .builtin .len,args:= #[x],argTypes:= #[t] }) ty K:=
  az.of_run (fun ρ hρ=>by simp [ex,execOp,hρ x _ hx,resolve,invoke,builtin,Builtin.len_,run_underlying ht,goInt]) k
theorem Rq {t:TypeId} {x ix:Operand} {s:ByteArray} {kd:IntKind} {i:Int} (ht:P.underlying t=some .string) (hx:ev Γ x=some (.string s)) (hi:ev Γ ix=some (.int kd i)) (h0:0≤i) (h1:i.toNat<s.size) (k:K (.int .u8 (s[i.toNat]'h1).toNat) w):az P Γ w (.index t x ix) ty K:=
  az.of_run (fun ρ hρ=>by
    simp only [ex,execOp,hρ x _ hx,hρ ix _ hi,Instr.index,asIntOf]
    simp [run_underlying ht,h0,h1]) k
theorem Rs {t e:TypeId} {x ix:Operand} {cs:Array Value} {len b:Nat} {d:TypeDesc} {z:Option Value} {kd:IntKind} {i:Int} {v:Value} (ht:P.underlying t=some (.array len e)) (he:P.underlying e=some d) (hd:lV d=false) (hs:cp P e=some (1,b,z)) (hx:ev Γ x=some (.agg cs)) (hi:ev Γ ix=some (.int kd i))
    (h0:0≤i) (h1:i<len) (hv:cs[i.toNat]?=some v) (k:K v w):az P Γ w (.index t x ix) ty K:=
  az.of_run (fun ρ hρ=>by
    simp only [ex,execOp,hρ x _ hx,hρ ix _ hi,Instr.index,asIntOf,part]
    simp [run_underlying ht,ko hs,k7 he,hd,h0,h1,hv]) k
theorem tf {t e:TypeId} {x ix:Operand} {ad:Addr} {len sz b:Nat} {z:Option Value} {kd:IntKind} {i:Int} (ht:P.underlying t=some (.array len e)) (hs:cp P e=some (sz,b,z)) (hx:ev Γ x=some (.pointer (some ad))) (hi:ev Γ ix=some (.int kd i))
    (h0:0≤i) (h1:i<len) (k:K (.pointer (some (ad.add (i.toNat*sz)))) w):az P Γ w (.indexAddr t x ix) ty K:=
  az.of_run (fun ρ hρ=>by
    simp only [ex,execOp,hρ x _ hx,hρ ix _ hi,Instr.indexAt,asIntOf,Instr.sureAddr]
    simp [run_underlying ht,ko hs,h0,h1]) k
def Vf (lo hi cap:Int):Prop:=0≤lo∧lo≤hi∧hi≤cap
theorem oC {b:Bool} {len cap:Nat} {lo hi:Option Value} {l h:Int} (DG:lo=none∧l=0∨∃kd,lo=some (.int kd l)) (M0:hi=none∧h=len∨∃kd,hi=some (.int kd h)) (hk:Vf l h cap):
    (Instr.sliceBounds b len cap lo hi none).run P w= .ok (l.toNat,h.toNat,cap) w:=by
  obtain ⟨h1,h2,h3⟩:=hk
  have e1:0≤h:=by omega
  have e2:(l:Int)≤((h.toNat:Nat):Int):=by omega
  rcases DG with ⟨rfl,rfl⟩|⟨kd,rfl⟩<;>rcases M0 with ⟨rfl,rfl⟩|⟨kd',rfl⟩
  · simp [Instr.sliceBounds]
  · simp [Instr.sliceBounds,Instr.sliceBound,asIntOf,e1,h3]
  · simp [Instr.sliceBounds,Instr.sliceBound,asIntOf,h1,h2]
  · have:l≤max h 0:=by omega
    simp [Instr.sliceBounds,Instr.sliceBound,asIntOf,e1,h1,h3,this]
def FY (Γ:Env):Option Operand→Option (Option Value)
  | none=>some none
  | some x=>(ev Γ x).map some
theorem NJ.FY {ρ:Operand→Value} (h:NJ ρ Γ) {x:Option Operand} {v:Option Value} (e:FY Γ x=some v):x.map ρ=v:=by
  cases x with
  | none=>simp [Sx.FY] at e;simp [e]
  | some x=>
    simp only [Sx.FY] at e
    cases hv:ev Γ x with
    | none=>rw [hv] at e;simp at e
    | some u=>rw [hv] at e;simp at e;simp [h x u hv,e]
theorem Rb {t:TypeId} {x:Operand} {lo hi:Option Operand} {Oe Of:Option Value} {s:ByteArray} (l h:Int) (ht:P.underlying t=some .string) (hx:ev Γ x=some (.string s)) (DG:FY Γ lo=some Oe) (M0:FY Γ hi=some Of)
    (el:Oe=none∧l=0∨∃kd,Oe=some (.int kd l)) (eh:Of=none∧h=s.size∨∃kd,Of=some (.int kd h)) (hk:Vf l h s.size) (k:K (.string (s.extract l.toNat h.toNat)) w):az P Γ w (.slice t x lo hi none) ty K:=
  az.of_run (fun ρ hρ=>by
    simp only [ex,execOp,hρ x _ hx,hρ.FY DG,hρ.FY M0,Instr.sliceAt,Instr.slice,Option.map_none]
    simp [run_underlying ht,oC (P:=P) (w:=w) (b:=false) el eh hk]) k
def ez (v:Value) (sz:Nat) (l h:Nat):Value:=
  match v with
  | .slice a _ c=> .slice (if c=l then a else a.map (·.add (l*sz))) (h-l) (c-l)
  | v=>v
theorem CU {t e:TypeId} {x:Operand} {lo hi:Option Operand} {Oe Of:Option Value} {A:aO} {n c sz b:Nat} {z:Option Value} (l h:Int) (ht:P.underlying t=some (.slice e)) (hs:cp P e=some (sz,b,z)) (hx:ev Γ x=some (.slice A n c)) (DG:FY Γ lo=some Oe) (M0:FY Γ hi=some Of)
    (el:Oe=none∧l=0∨∃kd,Oe=some (.int kd l)) (eh:Of=none∧h=n∨∃kd,Of=some (.int kd h)) (hk:Vf l h c) (k:K (ez (.slice A n c) sz l.toNat h.toNat) w):az P Γ w (.slice t x lo hi none) ty K:=
  az.of_run (fun ρ hρ=>by
    simp only [ex,execOp,hρ x _ hx,hρ.FY DG,hρ.FY M0,Instr.sliceAt,Instr.slice,Option.map_none]
    simp [run_underlying ht,ko hs,oC (P:=P) (w:=w) (b:=true) el eh hk,ez]) k
theorem wF {ρ:Operand→Value} {xs:Array Operand} {vs:List Value} (hρ:NJ ρ Γ) (hx:Nf Γ xs.toList=some vs):xs.map ρ=vs.toArray:=by
  have:=hρ.Nf _ _ hx
  rw [←this,←Array.toList_map]
def gJ (P:Program) (f:FuncId):Prop:=∀args w,(callFunc f args).run P w= .ok (.enter f args) w
theorem rK {f:FuncId} {fn:Func} (hf:P.funcs[f]?=some fn) (hn:(fn.name== "runtime.NumGoroutine")=false) (hb:fn.body.isNone=false):gJ P f:=by
  intro args w
  have NX:¬(fn.name= "runtime.NumGoroutine"):=by simpa using hn
  have DI:¬(fn.body=none):=by cases h:fn.body<;>simp [h] at hb ⊢
  simp [callFunc,hf,NX,DI]
theorem Y2 {f:FuncId} {xs:Array Operand} {ts:Array TypeId} {vs:List Value} (hc:gJ P f) (hx:Nf Γ xs.toList=some vs) (h:Calls P f vs.toArray w (bj K)):az P Γ w (.call { callee:= .value (.func f),args:=xs,argTypes:=ts }) ty K:=by
  intro ρ hρ
  have h1:ρ (.func f)= .func (.func f) #[] #[]:=hρ _ _ rfl
  have h2:xs.map ρ=vs.toArray:=wF hρ hx
  simp only [ex,execOp,resolve,h1,h2,Deferred.ofValue]
  have:=hc vs.toArray w
  simp [invoke,this]
  exact h
theorem kS {f:FuncId} {g:Operand} {first Je:Array Value} {xs:Array Operand} {ts:Array TypeId} {vs:List Value} (hc:gJ P f) (hg:ev Γ g=some (.func (.func f) first Je)) (hx:Nf Γ xs.toList=some vs)
    (h:Calls P f (first++vs.toArray++Je) w (bj K)):az P Γ w (.call { callee:= .value g,args:=xs,argTypes:=ts }) ty K:=by
  intro ρ hρ
  have h1:=hρ _ _ hg
  have h2:xs.map ρ=vs.toArray:=wF hρ hx
  simp only [ex,execOp,resolve,h1,h2,Deferred.ofValue]
  have:=hc (first++vs.toArray++Je) w
  simp only [Array.append_assoc] at this
  simp [invoke,this]
  simpa using h
theorem od {fn:Fn} {first Je:Array Operand} {fs cs:List Value} (h1:Nf Γ first.toList=some fs) (h2:Nf Γ Je.toList=some cs) (k:K (.func fn fs.toArray cs.toArray) w):az P Γ w (.makeFunc fn first Je) ty K:=
  az.of_run (fun ρ hρ=>by
    have e1:first.map ρ=fs.toArray:=wF hρ h1
    have e2:Je.map ρ=cs.toArray:=wF hρ h2
    simp [ex,execOp,e1,e2,Instr.makeFunc]) k
theorem adL {e:TypeId} {x:Operand} {v:Value} (hx:ev Γ x=some v) (k:∀w',aE w [] w' [bm w.heap.size v.cells e]→K (.pointer (some ⟨w.heap.size,0,none⟩)) w'):az P Γ w (.box e x) ty K:=
  az.of_run (w':=w.alloc (.cells v.cells e)) (fun ρ hρ=>by simp [ex,execOp,hρ x _ hx,Instr.box,newVar,newRow,newObj,Sem.run]) (k _ (aE.alloc w _ e))
theorem UU {e:TypeId} {s b:Nat} {z:Value} (hs:cp P e=some (s,b,some z)) (k:∀w',aE w [] w' [bm w.heap.size z.cells e]→K (.pointer (some ⟨w.heap.size,0,none⟩)) w'):az P Γ w (.alloc e) ty K:=
  az.of_run (w':=w.alloc (.cells z.cells e)) (fun ρ hρ=>by simp [ex,execOp,Instr.alloc,sk hs,newVar,newRow,newObj,Sem.run]) (k _ (aE.alloc w _ e))
end
def Ng (Γ:Env):List (Nat×Operand)→Option (List (Nat×Value))
  | []=>some []
  | (i,x)::r=>match ev Γ x,Ng Γ r with|some v,some l=>some ((i,v)::l)|_,_=>none
theorem NJ.Ng {ρ:Operand→Value} {Γ:Env} (h:NJ ρ Γ):∀(l:List (Nat×Operand)) (vs:List (Nat×Value)),Sx.Ng Γ l=some vs→(l.map fun p=>(p.1,ρ p.2))=vs
  | [],vs,e=>by simp [Sx.Ng] at e;simp [e]
  | (i,x)::r,vs,e=>by
    simp only [Sx.Ng] at e
    split at e
    · rename_i v l hv hl
      simp only [Option.some.injEq] at e
      subst e
      simp [h x v hv,h.Ng r l hl]
    · cases e
section
variable {P:Program} {Γ:Env} {w:World} {ty:TypeId} {K:Value→World→Prop}
theorem UT {t:TypeId} {ps:Array (Nat×Operand)} {vs:List (Nat×Value)} {cs:Array Value} (hp:Ng Γ ps.toList=some vs) (hb:P.built t vs=some cs) (k:K (.agg cs) w):az P Γ w (.build t ps) ty K:=
  az.of_run (fun ρ hρ=>by
    have e:(ps.map fun (i,x)=>(i,ρ x)).toList=vs:=by rw [←hρ.Ng _ _ hp];simp
    simp only [ex,execOp,Sem.run_bind,run_build w t _ cs (by rw [e];exact hb),Result.andThen_ok]
    rfl) k
theorem EO {g:Nat} {cs:Array Value} {e:TypeId} {sz n:Nat} {w':World} (h:aE w [] w' [bm g cs e]) (hs:cs.size=n*sz) (hn:n≤9223372036854775807):aE w [] w' [row (.slice (some ⟨g,0,none⟩) n n) e sz n cs.toList]:=by
  have hb:=h.hp.bm (g:=g) (cs:=cs) (e:=e) (by simp)
  have ho:w'.ownsRow 0 e sz (.slice (some ⟨g,0,none⟩) n n) n cs.toList:=
    ⟨by simp [hs],.inr ⟨g,n,cs,rfl,Nat.zero_le _,hb,Nat.le_refl _,by simp [maxLen];omega,hs,by rw [List.take_of_length_le];simp [hs]⟩⟩
  refine ⟨⟨fun c hc=>?_,by simp [dI,row,Value.ownBlock]⟩,h.keep,fun g' hg=>h.fresh g' (by simpa [dI,row,bm,Value.ownBlock] using hg)⟩
  simp only [List.mem_singleton] at hc
  subst hc
  exact p6 ho
theorem C1 {t e:TypeId} {len sz b:Nat} {z:Value} {ps:Array (Nat×Operand)} {vs:List (Nat×Value)} {cs:Array Value} (ht:P.underlying t=some (.slice e)) (hs:cp P e=some (sz,b,some z)) (hp:Ng Γ ps.toList=some vs)
    (ur:Nat.ble (len*sz) 16777216=true) (CH:Nat.beq (len*sz) 0=false)
    (hf:Instr.fill (fun i=>some (i*sz,sz)) ((Array.range (len*sz)).map (z.cells[· %z.cells.size]!)) vs=some cs) (hcs:cs.size=len*sz)
    (k:∀w',aE w [] w' [row (.slice (some ⟨w.heap.size,0,none⟩) len len) e sz len cs.toList]→K (.slice (some ⟨w.heap.size,0,none⟩) len len) w'):az P Γ w (.buildSlice t len ps) ty K:=
  az.of_run (w':=w.alloc (.cells cs e)) (fun ρ hρ=>by
    have e1:(ps.map fun (i,x)=>(i,ρ x)).toList=vs:=by rw [←hρ.Ng _ _ hp];simp
    have h1:¬(16777216<len*sz):=by have:=Nat.le_of_ble_eq_true ur;omega
    have h2:len*sz≠0:=by intro h;rw [h] at CH;simp at CH
    simp only [ex,execOp,Instr.buildSlice,e1]
    simp [run_underlying ht,ko hs,sk hs,h1,hf,newRow,newObj,Sem.run,h2]) (k _ (EO (aE.alloc w cs e) hcs (by
      have:=Nat.le_of_ble_eq_true ur
      have h2:0<sz:=by
        rcases Nat.eq_zero_or_pos sz with h|h
        · rw [h] at CH;simp at CH
        · exact h
      have:=Nat.le_mul_of_pos_right len h2
      omega)))
theorem Ag {t e:TypeId} {sz b:Nat} {z:Option Value} (ht:P.underlying t=some (.slice e)) (hs:cp P e=some (sz,b,z))
    (k:∀w',aE w [] w' [row (.slice (some ⟨w.heap.size,0,none⟩) 0 0) e sz 0 []]→K (.slice (some ⟨w.heap.size,0,none⟩) 0 0) w'):az P Γ w (.buildSlice t 0 #[]) ty K:=
  az.of_run (w':=w.alloc (.cells #[] e)) (fun ρ hρ=>by
    simp only [ex,execOp,Instr.buildSlice]
    have h0:∀f:Nat→Value,(Array.range 0).map f= #[]:=fun f=>by simp
    simp [run_underlying ht,ko hs,newRow,newObj,Sem.run,Instr.fill,h0]) (k _ (by simpa using EO (n:=0) (sz:=sz) (aE.alloc w #[] e) (by simp) oz))
theorem Ri {t e:TypeId} {x y:Operand} {kx ky:IntKind} {sz b:Nat} {z:Value} {l c:Int} (ht:P.underlying t=some (.slice e)) (hs:cp P e=some (sz,b,some z)) (hx:ev Γ x=some (.int kx l)) (hy:ev Γ y=some (.int ky c))
    (h0:0≤l) (hlc:l≤c) (hb:(b:Int)*c≤140737488355328) (hc:c≤9223372036854775807)
    (k:∀w',aE w [] w' [row (.slice (some ⟨w.heap.size,0,none⟩) l.toNat c.toNat) e sz l.toNat ((madeCells z.cells (c.toNat*sz)).toList.take (l.toNat*sz))]→K (.slice (some ⟨w.heap.size,0,none⟩) l.toNat c.toNat) w'):az P Γ w (.makeSlice t x y) ty K:=by
  obtain ⟨i,hi,rfl,rfl,hz⟩:=kZ hs
  refine az.of_run (w':=w.alloc (.cells (madeCells z.cells (c.toNat*i.size)) e)) (fun ρ hρ=>?_) (k _ ?_)
  · simp only [ex,execOp,hρ x _ hx,hρ y _ hy,Sem.run_bind,run_make (P:=P) w t e i z ht hi hz kx ky l c h0 hlc oz hc,Result.andThen_ok]
    rfl
  · have hu:=aE.alloc w (madeCells z.cells (c.toNat*i.size)) e
    have Ac:=hu.hp.bm (g:=w.heap.size) (cs:=madeCells z.cells (c.toNat*i.size)) (e:=e) (by simp)
    have hle:l.toNat*i.size≤c.toNat*i.size:=Nat.mul_le_mul_right _ oz
    have ho:(w.alloc (.cells (madeCells z.cells (c.toNat*i.size)) e)).ownsRow 0 e i.size (.slice (some ⟨w.heap.size,0,none⟩) l.toNat c.toNat) l.toNat ((madeCells z.cells (c.toNat*i.size)).toList.take (l.toNat*i.size)):=
      ⟨by rw [List.length_take,Array.length_toList,size_madeCells];exact Nat.min_eq_left hle,.inr ⟨w.heap.size,c.toNat,_,rfl,Nat.zero_le _,Ac,by omega,by simp [maxLen];omega,size_madeCells _ _,rfl⟩⟩
    refine ⟨⟨fun c' GV=>?_,by simp [dI,row,Value.ownBlock]⟩,hu.keep,fun g' hg=>hu.fresh g' (by simpa [dI,row,bm,Value.ownBlock] using hg)⟩
    simp only [List.mem_singleton] at GV
    subst GV
    exact p6 ho
theorem BP {v v':Value} {e:TypeId} {sz n n':Nat} {vs vs':List Value} {w':World} (h:w'.ownsRow 0 e sz v' n' vs') (hg:w.grownBy w' v.ownBlock) (hb:v'.ownBlock=v.ownBlock∨v'.ownBlock=some w.heap.size):aE w [row v e sz n vs] w' [row v' e sz n' vs']:=by
  refine ⟨⟨fun c hc=>?_,?_⟩,⟨hg.os,hg.tape,hg.output,hg.size,fun k hk hs=>hg.block k hk ?_⟩,fun g QI=>?_⟩
  · simp only [List.mem_singleton] at hc;subst hc;exact p6 h
  · cases hv:v'.ownBlock<;>simp [dI,row,hv]
  · intro e';apply hs;simp [dI,row,←e']
  · have:v'.ownBlock=some g:=by
      cases hv:v'.ownBlock<;>simp [dI,row,hv] at QI
      rw [QI]
    rcases hb with h1|h1
    · left;rw [this] at h1;simp [dI,row,←h1]
    · right;rw [this] at h1;injection h1 with h1;omega
theorem vR {t xt e:TypeId} {i:TypeInfo} {a A:aO} {n c c':Nat} (ht:P.underlying t=some (.slice e)) (hxt:P.underlying xt=some (.slice e)) (hi:P.info? e=some i) (hn:n≤c):(Builtin.append_ #[t,xt] ty #[.slice a n c,.slice A 0 c']).run P w= .ok (.slice a n c) w:=by
  have hf:(Builtin.firstCells i.size 0 (.slice A 0 c')).run P w= .ok #[] w:=by
    cases A<;>simp [Builtin.firstCells,loadCells,loadCellsFrom]
  have hm:(match (TypeDesc.slice e) with| .int _=>true|_=>false)=false:=rfl
  cases a<;>simp [Builtin.append_,run_underlying ht,run_underlying hxt,sizeOf,typeInfo,hi,Builtin.lenOf,hn,hf,storeCells]
theorem Rx {s x:Operand} {t e:TypeId} {sz b n m c cx:Nat} {z:Value} {a A:aO} {vs news:List Value} (ht:P.underlying t=some (.slice e)) (hs:cp P e=some (sz,b,some z)) (SH:z.cells.size=sz) (DF:Nat.blt 0 sz=true)
    (Wd:ev Γ s=some (.slice a n c)) (hx:ev Γ x=some (.slice A m cx)) (ho:w.ownsRow 0 e sz (.slice a n c) n vs) (hr:Rd w (.slice A m cx) sz m news) (h1:∀u∈news,u.oneCell'=true) (hb:(n+m)*b≤140737488355328) (gk:n+m≤9223372036854775807)
    (k:∀a' c' w',aE w [row (.slice a n c) e sz n vs] w' [row (.slice a' (n+m) c') e sz (n+m) (vs++news)]→K (.slice a' (n+m) c') w'):az P Γ w (.call { callee:= .builtin .append,args:= #[s,x],argTypes:= #[t,t] }) ty K:=by
  obtain ⟨i,hi,rfl,rfl,hz⟩:=kZ hs
  have abV:0<i.size:=of_eq_true (Eq.trans Nat.blt_eq.symm (eq_true DF))
  rcases Nat.eq_zero_or_pos m with rfl|hm
  · have hn:n≤c:=by
      rcases ho.2 with ⟨h1,h2⟩|⟨g,cap,cur,h1,_,_,h2,_⟩
      · omega
      · injection h1 with _ _ h1;omega
    have acg:news=[]:=by have:=hr.len;simp at this;exact this
    subst acg
    refine az.of_run (w':=w) (fun ρ hρ=>?_) (k a c w ?_)
    · have:=vR (P:=P) (w:=w) (ty:=ty) (t:=t) (xt:=t) (a:=a) (A:=A) (n:=n) (c:=c) (c':=cx) ht ht hi hn
      simp only [ex,execOp,resolve,invoke,builtin,Sem.run_bind,Sem.run_pure,Result.andThen_ok,List.map_toArray,List.map_cons,List.map_nil,hρ s _ Wd,hρ x _ hx,this]
      rfl
    · simp only [List.append_nil]
      refine aE.refl ⟨fun c' GV=>?_,?_⟩
      · simp only [List.mem_singleton] at GV;subst GV;exact p6 ho
      · cases a<;>simp [dI,row,Value.ownBlock]
  · have hlen:0<news.length:=by rw [hr.len];exact Nat.mul_pos hm abV
    obtain ⟨A',adR,e',hl,_,qV⟩:=hr
    injection e' with e1 e2 e3
    subst e1 e3
    obtain ⟨ad,rfl,_⟩:=qV 0 _ (List.getElem?_eq_getElem hlen)
    obtain ⟨v',w',XP,ab8,hg,_,iP⟩:=run_append_own_at (P:=P) w 0 t ty e i z i.size i.bytes ht hi hz rfl rfl SH abV (.slice a n c) n vs ho ad m cx news hl (fun j u hj=>by
      obtain ⟨ad',e',hc⟩:=qV j u hj
      injection e' with e'
      subst e'
      exact hc) h1 (by simp [maxLen];omega) hb (Nat.zero_le _)
    obtain ⟨a',c',rfl⟩:=L5 ab8
    refine az.of_run (fun ρ hρ=>?_) (k a' c' w' (BP ab8 hg iP))
    simp only [ex,execOp,resolve,invoke,builtin,Sem.run_bind,Sem.run_pure,Result.andThen_ok,List.map_toArray,List.map_cons,List.map_nil,hρ s _ Wd,hρ x _ hx,XP]
end
structure pO where
  k:Nat
  v:Value
  C:World→Prop
section
variable (P:Program) (n:Nat) (ops:Array Oper)
def dh (k:Nat):List Nat:=match ops[k]? with|some o=>(o.after.toList.filter (Region.binds .any)).map (·.on)|none=>[]
def ir (k:Nat):Option Tmp:=(ops[k]?).bind (·.dst)
def looks (k:Nat):List Tmp:=match ops[k]? with|some o=>o.looksAt ops|none=>[]
def fv:Bool:=
  Region.noSelect ops&&
  (List.range ops.size).all fun k=>
    ((dh ops k).all fun i=>Nat.blt i k)&&
    (List.range ops.size).all fun i=>i==k||match ir ops i with
      | none=>true
      | some d=>ir ops k !=some d&&(!(looks ops k).contains d||(dh ops k).contains i||(dh ops i).contains k)
def Vm (Γ:Env) (k:Nat) (v:Value) (w:World):Prop:=
  ∀a:Act,(∀t u,t∈looks ops k→look Γ t=some u→a.tmps.getD t undef=u)→∃o,ops[k]?=some o∧
    ((Region.wanted o (yielded ops a.tmps)=true∧∀next Q,next (a.put o.dst v) w→o.wp P a w next Q)∨(Region.wanted o (yielded ops a.tmps)=false∧v=undef))
structure Inv (T:List Nat) (Pn:List pO) (Γ:Env) (w:World) (listed:Array Bool) (a:Act):Prop where
  l7:listed.size=ops.size
  size:a.tmps.size=n
  defers:a.defers=[]
  mh:∀i,i∈T→∀j,j∈dh ops i→j∈T
  th:∀i,listed.getD i false=true→∀j,j∈dh ops i→listed.getD j false=true
  taken:∀i,listed.getD i false=true→i∈T
  slot:∀t v,look Γ t=some v→(∀p,p∈Pn→listed.getD p.k false=false→ir ops p.k=some t→p.v=v)∧((∀p,p∈Pn→listed.getD p.k false=false→ir ops p.k≠some t)→a.tmps.getD t undef=v)
  PA:∀i,i∈T→listed.getD i false=false→∃p,p∈Pn∧p.k=i
  prom:∀p,p∈Pn→p.k∈T∧(listed.getD p.k false=false→p.C w∧(ir ops p.k).any (· <n)=true∧∃Γk,(∀w',p.C w'→Vm P ops Γk p.k p.v w')∧
    ∀t u,t∈looks ops p.k→look Γk t=some u→(∀q,q∈Pn→listed.getD q.k false=false→ir ops q.k=some t→q.k∈dh ops p.k→q.v=u)∧((∀q,q∈Pn→listed.getD q.k false=false→q.k∈dh ops p.k→ir ops q.k≠some t)→a.tmps.getD t undef=u))
  one:∀p,p∈Pn→∀q,q∈Pn→p.k=q.k→p.v=q.v
def WD (Q:Exit→Act→World→Prop) (T:List Nat) (Pn:List pO) (Γ:Env) (w:World):Prop:=
  ∀fuel listed a,Inv P n ops T Pn Γ w listed a→((List.range ops.size).filter fun i=> !listed.getD i false).length≤fuel→wpAny P .any ops Q fuel listed a w
end
section
variable {P:Program} {n:Nat} {ops:Array Oper} {Q:Exit→Act→World→Prop} {T:List Nat} {Pn:List pO} {Γ:Env} {w:World} {listed:Array Bool} {a:Act}
theorem pa (h:fv ops=true):Region.noSelect ops=true:=by simp only [fv,Bool.and_eq_true] at h;exact h.1
theorem ED (h:fv ops=true) {k i:Nat} (hk:k<ops.size) (hi:i∈dh ops k):i<k:=by
  simp only [fv,Bool.and_eq_true,List.all_eq_true,List.mem_range] at h
  exact of_eq_true (Eq.trans Nat.blt_eq.symm (eq_true ((h.2 k hk).1 i hi)))
theorem lb (h:fv ops=true) {k i d:Nat} (hk:k<ops.size) (hi:i<ops.size) (c0:i≠k) (hd:ir ops i=some d):ir ops k≠some d∧(d∈looks ops k→i∈dh ops k∨k∈dh ops i):=by
  simp only [fv,Bool.and_eq_true,List.all_eq_true,List.mem_range] at h
  have h1:=(h.2 k hk).2 i hi
  simp only [hd,Bool.or_eq_true,beq_iff_eq,c0,false_or,Bool.and_eq_true,bne_iff_ne,ne_eq,Bool.not_eq_true',List.contains_eq_mem,decide_eq_true_eq,decide_eq_false_iff_not] at h1
  exact ⟨h1.1,fun hm=>by rcases h1.2 with (h2|h2)|h2;exact absurd hm h2;exact .inl h2;exact .inr h2⟩
theorem yO {k d:Nat} (h:ir ops k=some d):k<ops.size:=by
  unfold ir at h
  rcases Nat.lt_or_ge k ops.size with h1|h1
  · exact h1
  · simp [Array.getElem?_eq_none h1] at h
theorem ld (hl:listed.size=ops.size) {j:Nat} :j∈Region.ready .any ops listed↔j<ops.size∧listed.getD j false=false∧∀i,i∈dh ops j→listed.getD i false=true:=by
  rw [mem_ready]
  constructor
  · rintro ⟨h0,o,ho,jS⟩
    have hj:=(Array.getElem?_eq_some_iff.1 ho).1
    refine ⟨hj,?_,fun i hi=>?_⟩
    · rw [Array.getD_eq_getD_getElem?] at h0 ⊢
      rw [Array.getElem?_eq_getElem oz] at h0 ⊢
      simpa using h0
    · simp only [dh,ho,List.mem_map,List.mem_filter] at hi
      obtain ⟨e,⟨he,hb⟩,rfl⟩:=hi
      exact jS e (by simpa using he) hb
  · rintro ⟨hj,h0,jS⟩
    refine ⟨?_,ops[j],Array.getElem?_eq_getElem hj,fun e he hb=>?_⟩
    · rw [Array.getD_eq_getD_getElem?] at h0 ⊢
      rw [Array.getElem?_eq_getElem oz] at h0 ⊢
      simpa using h0
    · refine jS _ ?_
      simp only [dh,Array.getElem?_eq_getElem hj,List.mem_map,List.mem_filter]
      exact ⟨e,⟨by simpa using he,hb⟩,rfl⟩
theorem eZ {i j:Nat} (hi:i<listed.size):(listed.setIfInBounds i true).getD j false=if i=j then true else listed.getD j false:=by
  by_cases h:i=j
  · subst h;simp [hi]
  · simp [h,Array.getElem?_setIfInBounds_ne h]
theorem Hv (bX:fv ops=true) (hl:listed.size=ops.size) {i:Nat} (hi:i<ops.size) (hu:listed.getD i false=false):∃j,j∈Region.ready .any ops listed:=by
  induction i using Nat.strongRecOn with
  | _ i ih=>
    by_cases h:∀j,j∈dh ops i→listed.getD j false=true
    · exact ⟨i,(ld hl).2 ⟨hi,hu,h⟩⟩
    · have:∃j,j∈dh ops i∧listed.getD j false=false:=by
        false_or_by_contra
        rename_i hc
        refine h (fun j hj=>?_)
        cases hx:listed.getD j false
        · exact absurd ⟨j,hj,hx⟩ hc
        · rfl
      obtain ⟨j,hj,hx⟩:=this
      have cX:=ED bX hi hj
      exact ih j cX oz hx
theorem count_set {i:Nat} (hi:i<ops.size) (hl:listed.size=ops.size) (hu:listed.getD i false=false) {fuel:Nat} (hf:((List.range ops.size).filter fun j=> !listed.getD j false).length≤fuel+1):
    ((List.range ops.size).filter fun j=> !(listed.setIfInBounds i true).getD j false).length≤fuel:=by
  have rz:i∈(List.range ops.size).filter fun j=> !listed.getD j false:=by simp only [List.mem_filter,List.mem_range];exact ⟨hi,by rw [hu];rfl⟩
  have heq:((List.range ops.size).filter fun j=> !(listed.setIfInBounds i true).getD j false)=((List.range ops.size).filter fun j=> !listed.getD j false).filter (fun j=>j !=i):=by
    rw [List.filter_filter]
    apply List.filter_congr
    intro j _
    rw [eZ oz]
    by_cases h:i=j
    · subst h;simp
    · simp [h,Ne.symm h]
  have cX:(((List.range ops.size).filter fun j=> !listed.getD j false).filter (fun j=>j !=i)).length<((List.range ops.size).filter fun j=> !listed.getD j false).length:=by
    rcases Nat.lt_or_ge (((List.range ops.size).filter fun j=> !listed.getD j false).filter (fun j=>j !=i)).length ((List.range ops.size).filter fun j=> !listed.getD j false).length with h|h
    · exact h
    · have:=List.length_filter_eq_length_iff.1 (Nat.le_antisymm (List.length_filter_le _ _) h) i rz
      simp at this
  rw [heq];omega
theorem K3 {o:Oper} (hs:∀cs b,o.op≠ .select cs b) {k:Nat} (ho:ops[k]?=some o) {a:Act} (h:∀t u,t∈looks ops k→look Γ t=some u→a.tmps.getD t undef=u):∃ρ,NJ ρ Γ∧execOp a.eval o=execOp ρ o:=by
  refine ⟨fun x=>(ev Γ x).getD (a.eval x),fun x v e=>by simp [e],execOp_congr o hs fun x hx=>?_⟩
  cases hv:ev Γ x with
  | none=>simp
  | some u=>
    cases x with
    | tmp t=>
      simp only [Option.getD_some]
      refine h t u ?_ hv
      simp only [looks,ho,Oper.looksAt]
      exact List.mem_append_left _ (List.mem_filterMap.2 ⟨.tmp t,by simpa using hx,rfl⟩)
    | const c=>simpa [ev,Act.eval] using hv
    | global g=>simpa [ev,Act.eval] using hv
    | func f=>simpa [ev,Act.eval] using hv
theorem Inv.run (bX:fv ops=true) (h:Inv P n ops T Pn Γ w listed a) {p:pO} (hp:p∈Pn) (hr:p.k∈Region.ready .any ops listed):
    ∃o d,ops[p.k]?=some o∧o.dst=some d∧Inv P n ops T Pn Γ w (listed.setIfInBounds p.k true) (a.put (some d) p.v)∧
      ((Region.wanted o (yielded ops a.tmps)=true∧∀next Q,next (a.put o.dst p.v) w→o.wp P a w next Q)∨(Region.wanted o (yielded ops a.tmps)=false∧p.v=undef)):=by
  obtain ⟨hk,hu,jS⟩:=(ld h.l7).1 hr
  obtain ⟨hT,hpr⟩:=h.prom p hp
  obtain ⟨hC,hd,Γk,hy,hsl⟩:=hpr hu
  obtain ⟨o,ho,XT⟩:=hy w hC a (fun t u ht hl=>(hsl t u ht hl).2 fun q _ h2 h5 _=>by rw [jS q.k h5] at h2;cases h2)
  cases sY:ir ops p.k with
  | none=>rw [sY] at hd;simp at hd
  | some d=>
    have hod:o.dst=some d:=by simpa [ir,ho] using sY
    have CK:d<n:=by rw [sY] at hd;simpa using hd
    refine ⟨o,d,ho,hod,?_,XT⟩
    have Bm:p.k<listed.size:=by rw [h.l7];exact hk
    have ID:∀t,(a.put (some d) p.v).tmps.getD t undef=if d=t then p.v else a.tmps.getD t undef:=fun t=>by
      by_cases e:d=t
      · subst e;simp [Act.put,Array.getD_eq_getD_getElem?,h.size,CK]
      · simp [Act.put,Array.getD_eq_getD_getElem?,e]
    have Aa:∀j,(listed.setIfInBounds p.k true).getD j false=false→p.k≠j∧listed.getD j false=false:=fun j hj=>by
      rw [eZ Bm] at hj
      split at hj
      · cases hj
      · rename_i e;exact ⟨e,hj⟩
    refine ⟨by simp [h.l7],by simp [Act.put,h.size],by simp [Act.put,h.defers],h.mh,fun i hi j hj=>?_,fun i hi=>?_,fun t v hv=>⟨fun q hq zu GS=>?_,fun qJ=>?_⟩,fun i hi hui=>h.PA i hi (Aa i hui).2,fun q hq=>⟨(h.prom q hq).1,fun zu=>?_⟩,h.one⟩
    · rw [eZ Bm] at hi ⊢
      split
      · rfl
      · split at hi
        · rename_i e;subst e;exact jS j hj
        · exact h.th i hi j hj
    · rw [eZ Bm] at hi
      split at hi
      · rename_i e;subst e;exact hT
      · exact h.taken i hi
    · exact (h.slot t v hv).1 q hq (Aa _ zu).2 GS
    · rw [ID]
      by_cases e:d=t
      · rw [if_pos e];exact (h.slot t v hv).1 p hp hu (e▸sY)
      · rw [if_neg e]
        refine (h.slot t v hv).2 fun q hq zu GS=>?_
        by_cases e2:p.k=q.k
        · rw [←e2,sY] at GS;injection GS;contradiction
        · exact qJ q hq (by rw [eZ Bm,if_neg e2];exact zu) GS
    · obtain ⟨c0,zu⟩:=Aa _ zu
      obtain ⟨hqT,zx⟩:=h.prom q hq
      obtain ⟨hqC,wI,Γq,hqy,hqs⟩:=zx zu
      refine ⟨hqC,wI,Γq,hqy,fun t u ht hl=>⟨fun r T8 hur hdr XW=>(hqs t u ht hl).1 r T8 (Aa _ hur).2 hdr XW,fun qJ=>?_⟩⟩
      rw [ID]
      have hqk:q.k<ops.size:=by cases hx:ir ops q.k with|none=>rw [hx] at wI;simp at wI|some x=>exact yO hx
      by_cases e:d=t
      · rw [if_pos e]
        subst e
        rcases (lb bX hqk hk c0 sY).2 ht with h6|h6
        · exact (hqs d u ht hl).1 p hp hu sY h6
        · rw [jS q.k h6] at zu;cases zu
      · rw [if_neg e]
        refine (hqs t u ht hl).2 fun r T8 hur XW hdr=>?_
        by_cases e2:p.k=r.k
        · rw [←e2,sY] at hdr;injection hdr;contradiction
        · exact qJ r T8 (by rw [eZ Bm,if_neg e2];exact hur) XW hdr
def lY (ops:Array Oper) (Γ:Env) (o:Oper):Option Bool:=
  match o.guard with
  | none=>some true
  | some (j,want)=>match ir ops j with
    | some t=>match look Γ t with
      | some (.bool b)=>some (b==want)
      | some (.tuple vs)=>if vs.size=0 then some false else none
      | _=>none
    | none=>none
theorem xg {o:Oper} {k:Nat} (ho:ops[k]?=some o) {c:Bool} (h:lY ops Γ o=some c) {a:Act} (ha:∀t u,t∈looks ops k→look Γ t=some u→a.tmps.getD t undef=u):Region.wanted o (yielded ops a.tmps)=c:=by
  unfold lY at h
  unfold Region.wanted
  split at h
  · rename_i hg;rw [hg];simpa using h
  · rename_i j want hg
    rw [hg]
    split at h
    · rename_i t ht
      split at h
      · rename_i b hb
        have hm:t∈looks ops k:=by
          simp only [looks,ho,Oper.looksAt,hg]
          exact List.mem_append_right _ (by rw [show ((ops[j]?).bind (·.dst))=some t from ht];simp)
        have h1:=ha t _ hm hb
        have:yielded ops a.tmps j=some b:=by
          unfold yielded
          rw [show ((ops[j]?).bind (·.dst))=some t from ht]
          rw [Array.getD_eq_getD_getElem?] at h1
          simp only [Option.bind_some]
          cases hx:a.tmps[t]? with
          | none=>rw [hx] at h1;simp [undef] at h1
          | some u=>rw [hx] at h1;simp at h1;subst h1;rfl
        simp only [this]
        injection h
      · rename_i vs hb
        have hm:t∈looks ops k:=by
          simp only [looks,ho,Oper.looksAt,hg]
          exact List.mem_append_right _ (by rw [show ((ops[j]?).bind (·.dst))=some t from ht];simp)
        have h1:=ha t _ hm hb
        split at h
        case isFalse=>cases h
        have:yielded ops a.tmps j=none:=by
          unfold yielded
          rw [show ((ops[j]?).bind (·.dst))=some t from ht]
          rw [Array.getD_eq_getD_getElem?] at h1
          simp only [Option.bind_some]
          cases hx:a.tmps[t]? with
          | none=>rfl
          | some u=>rw [hx] at h1;simp at h1;subst h1;rfl
        simp only [this]
        injection h
      · cases h
    · cases h
theorem W.Tz {id:Nat} {l:List Oper} (hm:P.follows .mixedOrders=true) (bX:fv l.toArray=true) (h:fv l.toArray=true→∀w',di [] w w'→WD P n l.toArray Q [] [] Γ w'):W P n (.region id l.toArray true) Q Γ w:=by
  intro a ha
  refine wp_region_any hm (h bX { w with drawn:=w.drawn+1 } (di.PL _ _) _ _ _ ?_ ?_)
  · have hl:∀i,(Array.replicate l.toArray.size false).getD i false=false:=fun i=>by
      rw [Array.getD_eq_getD_getElem?,Array.getElem?_replicate];split<;>rfl
    exact ⟨by simp,ha.size,ha.defers,by simp,(fun i hi=>by rw [hl] at hi;cases hi),(fun i hi=>by rw [hl] at hi;cases hi),fun t v hv=>⟨by simp,fun _=>ha.slot t v hv⟩,by simp,by simp,by simp⟩
  · refine Nat.le_trans (List.length_filter_le _ _) (by simp)
theorem WD.take (bX:fv ops=true) (k:Nat) {o:Oper} {d:Nat} (v:Value) (C:World→Prop) (ho:ops[k]?=some o) (hd:o.dst=some d) (CK:Nat.blt d n=true) (hT:T.contains k=false) (ry:(dh ops k).all T.contains=true)
    (hC:C w) (hy:lY ops Γ o=some true∧(∀w',C w'→az P Γ w' o.op o.type fun v' lZ=>v'=v∧lZ=w')∨lY ops Γ o=some false∧v=undef)
    (h:WD P n ops Q (k::T) (⟨k,v,C⟩::Pn) ((d,v)::Γ) w):WD P n ops Q T Pn Γ w:=by
  intro fuel listed a hi hf
  have sY:ir ops k=some d:=by simp [ir,ho,hd]
  have hkT:k∉T:=by simpa using hT
  have Qw:∀j,j∈dh ops k→j∈T:=by simpa using ry
  have X9:d<n:=of_eq_true (Eq.trans Nat.blt_eq.symm (eq_true CK))
  have Ug:listed.getD k false=false:=by cases hx:listed.getD k false;rfl;exact absurd (hi.taken k hx) hkT
  have hPk:∀p,p∈Pn→p.k≠k:=fun p hp e=>hkT (e▸(hi.prom p hp).1)
  have acV:∀p,p∈Pn→listed.getD p.k false=false→p.k<ops.size:=fun p hp hu=>by
    obtain ⟨_,Yc,_⟩:=(hi.prom p hp).2 hu
    cases hx:ir ops p.k with|none=>rw [hx] at Yc;simp at Yc|some x=>exact yO hx
  have X2:=yO sY
  refine h fuel listed a ⟨hi.l7,hi.size,hi.defers,fun i wL j hj=>?_,hi.th,fun i wL=>List.mem_cons_of_mem _ (hi.taken i wL),fun t u hu=>⟨fun p hp vr GU=>?_,fun qJ=>?_⟩,fun i wL hui=>?_,fun p hp=>⟨?_,fun vr=>?_⟩,fun p hp q hq e=>?_⟩ hf
  · rcases List.mem_cons.1 wL with rfl|wL
    · exact List.mem_cons_of_mem _ (Qw j hj)
    · exact List.mem_cons_of_mem _ (hi.mh i wL j hj)
  · rcases List.mem_cons.1 hp with rfl|hp
    · rw [sY] at GU;injection GU with GU;subst GU
      rw [dL] at hu;injection hu
    · by_cases e:d=t
      · subst e
        exact absurd GU (lb bX (acV p hp vr) X2 (Ne.symm (hPk p hp)) sY).1
      · rw [dy _ _ e] at hu;exact (hi.slot t u hu).1 p hp vr GU
  · by_cases e:d=t
    · subst e;exact absurd sY (qJ ⟨k,v,C⟩ (by simp) Ug)
    · rw [dy _ _ e] at hu
      exact (hi.slot t u hu).2 fun p hp=>qJ p (List.mem_cons_of_mem _ hp)
  · rcases List.mem_cons.1 wL with rfl|wL
    · exact ⟨⟨i,v,C⟩,by simp,rfl⟩
    · obtain ⟨p,hp,e⟩:=hi.PA i wL hui
      exact ⟨p,List.mem_cons_of_mem _ hp,e⟩
  · rcases List.mem_cons.1 hp with rfl|hp
    · simp
    · exact List.mem_cons_of_mem _ (hi.prom p hp).1
  · rcases List.mem_cons.1 hp with rfl|hp
    · refine ⟨hC,by simp [sY,X9],Γ,fun w' hw' a' ha'=>⟨o,ho,?_⟩,fun t u ht hl=>⟨fun q hq zu GS V1=>?_,fun qJ=>?_⟩⟩
      · rcases hy with ⟨hw,hy⟩|⟨hw,hv⟩
        case inr=>exact .inr ⟨xg ho hw ha',hv⟩
        refine .inl ⟨xg ho hw ha',?_⟩
        obtain ⟨ρ,hρ,he⟩:=K3 (Γ:=Γ) (fun cs b=>Region.noSelect_spec (pa bX) k o cs b ho) ho ha'
        exact fun next Q hn=>(hy w' hw').wpR hρ he fun v' lZ ⟨e1,e2⟩=>by rw [e1,e2];exact hn
      · rcases List.mem_cons.1 hq with rfl|hq
        · have:=ED bX X2 V1;simp at this
        · exact (hi.slot t u hl).1 q hq zu GS
      · refine (hi.slot t u hl).2 fun q hq zu GS=>?_
        have hqT:=(hi.prom q hq).1
        rcases (lb bX X2 (acV q hq zu) (hPk q hq) GS).2 ht with h6|h6
        · exact qJ q (List.mem_cons_of_mem _ hq) zu h6 GS
        · exact hkT (hi.mh q.k hqT k h6)
    · obtain ⟨h1,h2,Γk,h3,h4⟩:=(hi.prom p hp).2 vr
      refine ⟨h1,h2,Γk,h3,fun t u ht hl=>⟨fun q hq zu GS V1=>?_,fun qJ=>(h4 t u ht hl).2 fun q hq=>qJ q (List.mem_cons_of_mem _ hq)⟩⟩
      rcases List.mem_cons.1 hq with rfl|hq
      · exact absurd (hi.mh p.k (hi.prom p hp).1 k V1) hkT
      · exact (h4 t u ht hl).1 q hq zu GS V1
  · rcases List.mem_cons.1 hp with rfl|hp<;>rcases List.mem_cons.1 hq with rfl|hq
    · rfl
    · exact absurd e.symm (hPk q hq)
    · exact absurd e (hPk p hp)
    · exact hi.one p hp q hq e
theorem drain (bX:fv ops=true)
    (ab0:∀fuel listed a,Inv P n ops T Pn Γ w listed a→((List.range ops.size).filter fun i=> !listed.getD i false).length≤fuel+1→∀j,j∈Region.ready .any ops listed→j∉T→wpOp P ops Q j (wpAny P .any ops Q fuel (listed.setIfInBounds j true)) a w)
    (X8:∀listed a,Inv P n ops T Pn Γ w listed a→(∀i,i<ops.size→listed.getD i false=true)→Q .normal a w):WD P n ops Q T Pn Γ w:=by
  intro fuel
  induction fuel with
  | zero=>
    intro listed a hi hf
    have jS:∀i,i<ops.size→listed.getD i false=true:=fun i cX=>by
      cases hx:listed.getD i false with
      | true=>rfl
      | false=>
        have:i∈(List.range ops.size).filter fun i=> !listed.getD i false:=by simp only [List.mem_filter,List.mem_range];exact ⟨cX,by rw [hx];rfl⟩
        have:=List.length_pos_of_mem this
        omega
    refine ⟨?_,X8 listed a hi jS⟩
    rw [List.eq_nil_iff_forall_not_mem]
    intro j hj
    obtain ⟨h1,h2,_⟩:=(ld hi.l7).1 hj
    rw [jS j h1] at h2;cases h2
  | succ fuel ih=>
    intro listed a hi hf
    refine ⟨fun hr=>X8 listed a hi fun i cX=>?_,fun j hj=>?_⟩
    · cases hx:listed.getD i false with
      | true=>rfl
      | false=>
        obtain ⟨j,hj⟩:=Hv bX hi.l7 cX hx
        rw [hr] at hj;cases hj
    · by_cases hT:j∈T
      · obtain ⟨h1,h2,_⟩:=(ld hi.l7).1 hj
        obtain ⟨p,hp,rfl⟩:=hi.PA j hT h2
        obtain ⟨o,d,ho,hd,wL,XT⟩:=hi.run bX hp hj
        have hk:=ih (listed.setIfInBounds p.k true) (a.put (some d) p.v) wL (count_set h1 hi.l7 h2 hf)
        unfold wpOp
        rw [ho]
        rcases XT with ⟨hw,hr⟩|⟨hw,hv⟩
        · simp only [hw,if_true]
          exact .inl (hr _ _ (by rw [hd];exact hk))
        · simp only [hw,Bool.false_eq_true,if_false]
          rw [hd,←hv];exact hk
      · exact ab0 fuel listed a hi hf j hj hT
theorem WD.done (bX:fv ops=true) (jS:(List.range ops.size).all T.contains=true) (h:X n Q .normal Γ w):WD P n ops Q T Pn Γ w:=by
  have acR:∀i,i<ops.size→i∈T:=by simpa using jS
  refine drain bX (fun fuel listed a hi _ j hj hT=>absurd (acR j ((ld hi.l7).1 hj).1) hT) fun listed a hi hl=>h a ⟨hi.size,hi.defers,fun t v hv=>(hi.slot t v hv).2 fun p hp vr GU=>?_⟩
  rw [hl p.k (yO GU)] at vr;cases vr
theorem WD.part (t:Nat) {p:Prop} [Decidable p] (ht:look Γ t=some (.bool (decide p))) (h1:p→WD P n ops Q T Pn ((t,.bool true)::Γ) w) (h2:¬p→WD P n ops Q T Pn ((t,.bool false)::Γ) w):WD P n ops Q T Pn Γ w:=by
  intro fuel listed a hi hf
  have key:∀b,decide p=b→Inv P n ops T Pn ((t,.bool b)::Γ) w listed a:=fun b hb=>by
    refine ⟨hi.l7,hi.size,hi.defers,hi.mh,hi.th,hi.taken,fun u v hv=>hi.slot u v ?_,hi.PA,hi.prom,hi.one⟩
    by_cases e:t=u
    · subst e;rw [dL] at hv;rw [ht,hb];exact hv
    · rwa [dy _ _ e] at hv
  by_cases hp:p
  · exact h1 hp fuel listed a (key true (by simp [hp])) hf
  · exact h2 hp fuel listed a (key false (by simp [hp])) hf
def Dq (ops:Array Oper) (j:Nat):List Nat:=(List.range j).reverse.foldl (fun S i=>if (j::S).any (fun s=>(dh ops s).contains i) then i::S else S) []
theorem Gw {j:Nat} (hj:∀i,i∈dh ops j→listed.getD i false=true) (hc:∀i,listed.getD i false=true→∀k,k∈dh ops i→listed.getD k false=true):∀i,i∈Dq ops j→listed.getD i false=true:=by
  unfold Dq
  have:∀(l S:List Nat),(∀i,i∈S→listed.getD i false=true)→∀i,i∈l.foldl (fun S i=>if (j::S).any (fun s=>(dh ops s).contains i) then i::S else S) S→listed.getD i false=true:=by
    intro l
    induction l with
    | nil=>intro S hS i hi;exact hS i hi
    | cons x l ih=>
      intro S hS i hi
      simp only [List.foldl_cons] at hi
      refine ih _ ?_ i hi
      intro k hk
      split at hk
      · rename_i hx
        rcases List.mem_cons.1 hk with rfl|hk
        · simp only [List.any_cons,Bool.or_eq_true,List.any_eq_true,List.contains_eq_mem,decide_eq_true_eq] at hx
          rcases hx with hx|⟨s,hs,hx⟩
          · exact hj k hx
          · exact hc s (hS s hs) k hx
        · exact hS k hk
      · exact hS k hk
  exact this _ [] (by simp)
def B7 (Γ:Env) (d:Option Tmp) (v:Value):Env:=match d with|some d=>(d,v)::Γ|none=>Γ
def Still (w:World):List pO→Prop
  | []=>True
  | p::r=>p.C w∧Still w r
theorem Still.at {w:World} :∀ {l:List pO},Still w l→∀p,p∈l→p.C w
  | _::_,h,p,hp=>by rcases List.mem_cons.1 hp with rfl|hp;exact h.1;exact Still.at h.2 p hp
def Sp (P:Program) (n:Nat) (ops:Array Oper) (Q:Exit→Act→World→Prop) (T:List Nat) (Pn:List pO) (Γ:Env) (w:World) (j:Nat):Prop:=
  ∃o Sn,ops[j]?=some o∧T.contains j=false∧(dh ops j).all T.contains=true∧(match o.dst with|some d=>Nat.blt d n|none=>true)=true∧lY ops Γ o=some true∧
    Pn.filter (fun p=> !(Dq ops j).contains p.k)=Sn∧az P Γ w o.op o.type fun v w'=>Still w' Sn∧WD P n ops Q (j::T) Sn (B7 Γ o.dst v) w'
theorem WD.VP (bX:fv ops=true) (js:List Nat) (c0:js.isEmpty=false)
    (Fw:((List.range ops.size).all fun i=>js.contains i||T.contains i|| !((dh ops i).all T.contains))=true) (h:∀j,j∈js→Sp P n ops Q T Pn Γ w j):WD P n ops Q T Pn Γ w:=by
  refine drain bX (fun fuel listed a hi hf i hir dr=>?_) (fun listed a hi hl=>?_)
  case refine_2=>
    cases js with
    | nil=>simp at c0
    | cons j js=>
      obtain ⟨o,Sn,ho,hT,_⟩:=h j (by simp)
      exact absurd (hi.taken j (hl j (Array.getElem?_eq_some_iff.1 ho).1)) (by simpa using hT)
  obtain ⟨MY,hiu,X4⟩:=(ld hi.l7).1 hir
  have cN:i∈js:=by
    have h1:=List.all_eq_true.1 Fw i (by simpa using MY)
    simp only [Bool.or_eq_true,List.contains_eq_mem,decide_eq_true_eq,Bool.not_eq_true'] at h1
    rcases h1 with (h1|h1)|h1
    · exact h1
    · exact absurd h1 dr
    · have:(dh ops i).all T.contains=true:=by simp only [List.all_eq_true,List.contains_eq_mem,decide_eq_true_eq];exact fun k hk=>hi.taken k (X4 k hk)
      exact absurd this (by rw [h1];simp)
  obtain ⟨o,Sn,ho,hT,ry,CK,hw,hP,h⟩:=h i cN
  have hjT:i∉T:=by simpa using hT
  have Qw:∀k,k∈dh ops i→k∈T:=by simpa using ry
  have qU:∀p,p∈Sn↔p∈Pn∧p.k∉Dq ops i:=fun p=>by rw [←hP];simp
  have Yf:=Gw X4 hi.th
  have MZ:i<listed.size:=by rw [hi.l7];exact MY
  have MT:∀p,p∈Pn→p.k≠i:=fun p hp e=>hjT (e▸(hi.prom p hp).1)
  have Ya:∀p,p∈Pn→listed.getD p.k false=false→p.k<ops.size:=fun p hp hu=>by
    obtain ⟨_,Yc,_⟩:=(hi.prom p hp).2 hu
    cases hx:ir ops p.k with|none=>rw [hx] at Yc;simp at Yc|some x=>exact yO hx
  have hag:∀t u,t∈looks ops i→look Γ t=some u→a.tmps.getD t undef=u:=fun t u ht hl=>(hi.slot t u hl).2 fun p hp vr GU=>by
    rcases (lb bX MY (Ya p hp vr) (MT p hp) GU).2 ht with h6|h6
    · rw [X4 p.k h6] at vr;cases vr
    · exact hjT (hi.mh p.k (hi.prom p hp).1 i h6)
  have abR:=xg ho hw hag
  obtain ⟨ρ,hρ,he⟩:=K3 (Γ:=Γ) (fun cs b=>Region.noSelect_spec (pa bX) i o cs b ho) ho hag
  unfold wpOp
  rw [ho]
  simp only [abR,if_true]
  refine .inl (h.wpR hρ he fun v w' ⟨jn,hk⟩=>hk fuel _ _ ?_ (count_set MY hi.l7 hiu hf))
  have Aa:∀k,(listed.setIfInBounds i true).getD k false=false→i≠k∧listed.getD k false=false:=fun k hk=>by
    rw [eZ MZ] at hk
    split at hk
    · cases hk
    · rename_i e;exact ⟨e,hk⟩
  have ID:∀t,(a.put o.dst v).tmps.getD t undef=if o.dst=some t then v else a.tmps.getD t undef:=fun t=>by
    cases hx:o.dst with
    | none=>simp [Act.put]
    | some d=>
      have X9:d<n:=by rw [hx] at CK;exact of_eq_true (Eq.trans Nat.blt_eq.symm (eq_true CK))
      by_cases e:d=t
      · subst e;simp [Act.put,Array.getD_eq_getD_getElem?,hi.size,X9]
      · simp [Act.put,Array.getD_eq_getD_getElem?,e]
  have hdi:ir ops i=o.dst:=by simp [ir,ho]
  refine ⟨by simp [hi.l7],by cases o.dst<;>simp [Act.put,hi.size],by cases o.dst<;>simp [Act.put,hi.defers],fun k hk m hm=>?_,fun k hk m hm=>?_,fun k hk=>?_,fun t u hu=>?_,fun k hk Ug=>?_,fun p hp=>⟨List.mem_cons_of_mem _ (hi.prom p ((qU p).1 hp).1).1,fun vr=>?_⟩,fun p hp q hq=>hi.one p ((qU p).1 hp).1 q ((qU q).1 hq).1⟩
  · rcases List.mem_cons.1 hk with rfl|hk
    · exact List.mem_cons_of_mem _ (Qw m hm)
    · exact List.mem_cons_of_mem _ (hi.mh k hk m hm)
  · rw [eZ MZ] at hk ⊢
    split
    · rfl
    · split at hk
      · rename_i e;subst e;exact X4 m hm
      · exact hi.th k hk m hm
  · rw [eZ MZ] at hk
    split at hk
    · rename_i e;subst e;simp
    · exact List.mem_cons_of_mem _ (hi.taken k hk)
  · rw [ID]
    by_cases e:o.dst=some t
    · rw [if_pos e]
      have:look (B7 Γ o.dst v) t=some v:=by rw [e];exact dL _ _ _
      rw [this] at hu;injection hu with hu
      refine ⟨fun p hp vr GU=>?_,fun _=>hu⟩
      have Ua:=((qU p).1 hp).1
      exact absurd (hdi.trans e) (fun e2=>(lb bX (Ya p Ua (Aa _ vr).2) MY (Ne.symm (MT p Ua)) e2).1 GU)
    · rw [if_neg e]
      have:look (B7 Γ o.dst v) t=look Γ t:=by
        cases hx:o.dst with
        | none=>rfl
        | some d=>exact dy _ _ (fun e2=>e (by rw [hx,e2]))
      rw [this] at hu
      refine ⟨fun p hp vr GU=>(hi.slot t u hu).1 p ((qU p).1 hp).1 (Aa _ vr).2 GU,fun qJ=>(hi.slot t u hu).2 fun p hp vr GU=>?_⟩
      refine qJ p ((qU p).2 ⟨hp,fun ha=>by rw [Yf _ ha] at vr;cases vr⟩) ?_ GU
      rw [eZ MZ,if_neg (Ne.symm (MT p hp))];exact vr
  · obtain ⟨c0,Ug⟩:=Aa _ Ug
    rcases List.mem_cons.1 hk with rfl|hk
    · exact absurd rfl c0
    · obtain ⟨p,hp,rfl⟩:=hi.PA k hk Ug
      exact ⟨p,(qU p).2 ⟨hp,fun ha=>by rw [Yf _ ha] at Ug;cases Ug⟩,rfl⟩
  · obtain ⟨Ua,Bl⟩:=(qU p).1 hp
    obtain ⟨c0,vr⟩:=Aa _ vr
    obtain ⟨_,h2,Γk,h3,h4⟩:=(hi.prom p Ua).2 vr
    refine ⟨jn.at p hp,h2,Γk,h3,fun t u ht hl=>⟨fun q hq zu GS V1=>(h4 t u ht hl).1 q ((qU q).1 hq).1 (Aa _ zu).2 GS V1,fun qJ=>?_⟩⟩
    rw [ID]
    have agR:o.dst≠some t:=fun e=>by
      rcases (lb bX (Ya p Ua vr) MY c0 (hdi.trans e)).2 ht with h6|h6
      · exact hjT (hi.mh p.k (hi.prom p Ua).1 i h6)
      · rw [X4 p.k h6] at vr;cases vr
    rw [if_neg agR]
    refine (h4 t u ht hl).2 fun q hq zu V1 GS=>?_
    refine qJ q ((qU q).2 ⟨hq,fun ha=>by rw [Yf _ ha] at zu;cases zu⟩) ?_ V1 GS
    rw [eZ MZ,if_neg (Ne.symm (MT q hq))];exact zu
theorem WD.abH (bX:fv ops=true) (j:Nat) (Fw:((List.range ops.size).all fun i=>[j].contains i||T.contains i|| !((dh ops i).all T.contains))=true) (h:Sp P n ops Q T Pn Γ w j):WD P n ops Q T Pn Γ w:=
  WD.VP bX [j] rfl Fw (fun i hi=>by simp only [List.mem_singleton] at hi;subst hi;exact h)
end
structure Ty (α:Type) where
  sz:Nat
  enc:α→List Value
  len:∀x,(enc x).length=sz
  one:∀x u,u∈enc x→u.oneCell'=true
  pos:0<sz
class Df {α:Type} (T:Ty α) (d:outParam α):Prop where
  h:True
def Ty.all {α:Type} (T:Ty α) (xs:List α):List Value:=xs.flatMap T.enc
def aw (k:IntKind):Ty Int:=⟨1,fun x=>[.int k x],fun _=>rfl,fun x u h=>by simp only [List.mem_singleton] at h;subst h;rfl,by omega⟩
def bu:Ty Bool:=⟨1,fun x=>[.bool x],fun _=>rfl,fun x u h=>by simp only [List.mem_singleton] at h;subst h;rfl,by omega⟩
section
variable {α:Type} (T:Ty α)
theorem Ty.cR (xs:List α):(T.all xs).length=xs.length*T.sz:=by
  induction xs with
  | nil=>simp [Ty.all]
  | cons x xs ih=>simp only [Ty.all,List.flatMap_cons,List.length_append,T.len,List.length_cons,Nat.add_mul,Nat.one_mul] at*;rw [ih];omega
theorem Ty.all_append (xs ys:List α):T.all (xs++ys)=T.all xs++T.all ys:=by simp [Ty.all]
theorem Ty.Lo (xs:List α):∀u∈T.all xs,u.oneCell'=true:=by
  intro u hu
  simp only [Ty.all,List.mem_flatMap] at hu
  obtain ⟨x,_,hx⟩:=hu
  exact T.one x u hx
theorem Ty.pL (d:α):∀(xs:List α) (i j:Nat),i<xs.length→j<T.sz→(T.all xs)[i*T.sz+j]?=(T.enc (xs.getD i d))[j]?
  | [],i,j,h,_=>by simp at h
  | x::xs,0,j,_,hj=>by
    simp only [Ty.all,List.flatMap_cons,Nat.zero_mul,Nat.zero_add,List.getD_cons_zero]
    rw [List.getElem?_append_left (by rw [T.len];exact hj)]
  | x::xs,i+1,j,h,hj=>by
    simp only [Ty.all,List.flatMap_cons,List.getD_cons_succ]
    rw [List.getElem?_append_right (by rw [T.len,Nat.add_mul];omega),T.len,←Ty.pL d xs i j (by simpa using h) hj]
    congr 1
    rw [Nat.add_mul];omega
theorem Ty.Vh (h1:T.sz=1) (d:α) (xs:List α) (i:Nat) (h:i<xs.length):(T.all xs)[i]?=(T.enc (xs.getD i d))[0]?:=by
  have:=T.pL d xs i 0 h oz
  simpa [h1] using this
theorem Ty.Gx (d:α) (xs:List α) (i:Nat) (h:i<xs.length):((T.all xs).drop (i*T.sz)).take T.sz=T.enc (xs.getD i d):=by
  apply List.ext_getElem?
  intro j
  rw [List.getElem?_take]
  by_cases hj:j<T.sz
  · rw [if_pos hj,List.getElem?_drop,T.pL d xs i j h hj]
  · rw [if_neg hj,List.getElem?_eq_none (by rw [T.len];omega)]
theorem Ty.wZ (d:α):∀(xs:List α) (i j:Nat) (x':α) (u:Value),i<xs.length→j<T.sz→T.enc x'=(T.enc (xs.getD i d)).set j u→(T.all xs).set (i*T.sz+j) u=T.all (xs.set i x')
  | [],i,j,_,_,h,_,_=>by simp at h
  | x::xs,0,j,x',u,_,hj,he=>by
    simp only [Ty.all,List.flatMap_cons,Nat.zero_mul,Nat.zero_add,List.set_cons_zero,List.getD_cons_zero] at*
    rw [List.set_append_left _ _ (by rw [T.len];exact hj),he]
  | x::xs,i+1,j,x',u,h,hj,he=>by
    simp only [Ty.all,List.flatMap_cons,List.set_cons_succ,List.getD_cons_succ] at*
    rw [List.set_append_right _ _ (by rw [T.len,Nat.add_mul];omega),T.len]
    have ih:=Ty.wZ d xs i j x' u (by simpa using h) hj he
    simp only [Ty.all] at ih
    rw [←ih]
    congr 2
    rw [Nat.add_mul];omega
def bH (w:World) (v:Value) (xs:List α):Prop:=Rd w v T.sz xs.length (T.all xs)
def aj (v:Value) (e:TypeId) (xs:List α):Chunk:=row v e T.sz xs.length (T.all xs)
end
section
variable {α:Type} {T:Ty α} {P:Program} {Γ:Env} {w:World} {ty:TypeId} {K:Value→World→Prop}
theorem bH.kept {w':World} {v:Value} {xs:List α} (h:bH T w v xs) (k:di [] w w'):bH T w' v xs:=Rd.kept h k
theorem bH.keep {w':World} {v:Value} {xs:List α} {S:List Nat} (h:bH T w v xs) (k:di S w w') (hS:∀g,Value.Jq v=some g→g∉S):bH T w' v xs:=Rd.keep h k hS
theorem bH.at {w':World} {v:Value} {xs:List α} {G:List (List Chunk)} (h:bH T w v xs) (k:aA w [] w' G):bH T w' v xs:=Rd.at h k
theorem bH.nil (w:World) (A:aO) (cap:Nat):bH T w (.slice A 0 cap) []:=⟨A,cap,rfl,by simp [Ty.all],by simp,by simp [Ty.all]⟩
theorem bH.le {v:Value} {xs:List α} (h:bH T w v xs):xs.length≤9223372036854775807:=by obtain ⟨_,_,_,_,h,_⟩:=h;exact h
theorem aA.Kc {w':World} {L:List Chunk} {G:List (List Chunk)} {v:Value} {e:TypeId} {xs:List α} (h:aA w L w' G) (i:Nat) (hi:G[i]?=some [aj T v e xs]):bH T w' v xs:=h.rd i hi
theorem aA.PF {w':World} {L:List Chunk} {G:List (List Chunk)} {v:Value} {e:TypeId} {xs:List α} (h:aA w L w' G) (i:Nat) (hi:G[i]?=some [aj T v e xs]):w'.ownsRow 0 e T.sz v xs.length (T.all xs):=h.own i hi
theorem aA.re {w w':World} {L:List Chunk} {G G':List (List Chunk)} (h:aA w L w' G) (e:G'.flatten=G.flatten):aA w L w' G':=by unfold aA at*;rw [e];exact h
theorem cQ {v:Value} {e:TypeId} {xs:List α} {L:List Chunk} (h:Hp w L) (hm:aj T v e xs∈L):bH T w v xs:=Ca (nO (h.holds _ hm))
theorem Tf {t e:TypeId} {x ix:Operand} {v:Value} {kd:IntKind} {i:Int} {b:Nat} {z:Option Value} {xs:List α} (j:Nat) (hT:T.sz=1) (ht:P.underlying t=some (.slice e)) (hs:cp P e=some (1,b,z))
    (hx:ev Γ x=some v) (hi:ev Γ ix=some (.int kd i)) (hr:bH T w v xs) (cN:i=((j:Nat):Int)) (hj:j<xs.length) (k:K (bP v j) w):az P Γ w (.indexAddr t x ix) ty K:=by
  subst cN
  unfold bH at hr
  rw [hT] at hr
  exact vG ht hs hx hi hr oz oz oz (by simpa using k)
theorem Te {t e:TypeId} {x ix:Operand} {v:Value} {kd:IntKind} {i:Int} {s b:Nat} {z:Option Value} {xs:List α} (j:Nat) (hT:T.sz=s) (ht:P.underlying t=some (.slice e)) (hs:cp P e=some (s,b,z))
    (hx:ev Γ x=some v) (hi:ev Γ ix=some (.int kd i)) (hr:bH T w v xs) (cN:i=((j:Nat):Int)) (hj:j<xs.length) (k:K (bP v (j*s)) w):az P Γ w (.indexAddr t x ix) ty K:=by
  subst cN
  subst hT
  exact vG ht hs hx hi hr oz oz T.pos (by simpa using k)
theorem Tc {t:TypeId} {x:Operand} {v:Value} {xs:List α} {desc:TypeDesc} {u:Value} (j:Nat) (d:α) (hT:T.sz=1) (ht:P.underlying t=some desc) (hd:lV desc=false) (hx:ev Γ x=some (bP v j)) (hr:bH T w v xs) (hj:j<xs.length)
    (he:T.enc (xs.getD j d)=[u]) (k:K u w):az P Γ w (.load t x) ty K:=
  K9 ht hd hx hr (by rw [T.Vh hT d xs j hj,he];rfl) k
theorem S9 {t:TypeId} {x:Operand} {v:Value} {xs:List α} {desc:TypeDesc} {s b:Nat} {z:Option Value} {us:List Value} (j:Nat) (d:α) (hT:T.sz=s) (ht:P.underlying t=some desc) (hd:lV desc=true) (hs:cp P t=some (s,b,z)) (hx:ev Γ x=some (bP v (j*s))) (hr:bH T w v xs) (hj:j<xs.length)
    (he:T.enc (xs.getD j d)=us) (k:K (.agg us.toArray) w):az P Γ w (.load t x) ty K:=by
  subst hT
  exact Gc us ht hd hs hx hr (by rw [←he,T.len]) T.pos (by rw [T.Gx d xs j hj,he]) k
theorem aaN {t:TypeId} {x:Operand} {f off s sf:Nat} {g:Bool} {v:Value} {xs:List α} (j:Nat) (d:α) (hT:T.sz=s) (hf:nz P t f=some (off,sf,g)) (hs:Nat.beq sf 0=false) (hx:ev Γ x=some (bP v (j*s))) (hr:bH T w v xs) (hj:j<xs.length) (k:K (bP v (j*s+off)) w):az P Γ w (.fieldAddr t x f) ty K:=by
  subst hT
  have h1:=T.pL d xs j 0 hj T.pos
  rw [Nat.add_zero,List.getElem?_eq_getElem (l:=T.enc (xs.getD j d)) (by rw [T.len];exact T.pos)] at h1
  exact CW hf hs hx hr h1 k
theorem Ta {t:TypeId} {x:Operand} {v:Value} {xs:List α} {desc:TypeDesc} {off s:Nat} {u:Value} (j:Nat) (d:α) (hT:T.sz=s) (cX:Nat.blt off s=true) (ht:P.underlying t=some desc) (hd:lV desc=false) (hx:ev Γ x=some (bP v (j*s+off))) (hr:bH T w v xs) (hj:j<xs.length)
    (he:(T.enc (xs.getD j d))[off]?=some u) (k:K u w):az P Γ w (.load t x) ty K:=by
  subst hT
  exact K9 ht hd hx hr (by rw [T.pL d xs j off hj (of_eq_true (Eq.trans Nat.blt_eq.symm (eq_true cX))),he]) k
theorem OD {t e:TypeId} {x y:Operand} {v:Value} {b:Nat} {z:Option Value} {xs:List α} {u:Value} (j:Nat) (x':α) (hT:T.sz=1) (hs:cp P t=some (1,b,z)) (hx:ev Γ x=some (bP v j)) (hy:ev Γ y=some u) (he:T.enc x'=[u])
    (ho:w.ownsRow 0 e T.sz v xs.length (T.all xs)) (hj:j<xs.length) (k:∀w',aE w [aj T v e xs] w' [aj T v e (xs.set j x')]→K undef w'):az P Γ w (.store t x y) ty K:=by
  have oP:(T.all xs).set j u=T.all (xs.set j x'):=by
    have:=T.wZ (xs.getD j x') xs j 0 x' u hj oz (by
      have h2:=T.len (xs.getD j (xs.getD j x'))
      rw [hT] at h2
      match h3:T.enc (xs.getD j (xs.getD j x')),h2 with
      | [c],_=>rw [he];rfl)
    simpa [hT] using this
  refine F9 hs hx hy (T.one x' u (by rw [he];simp)) ho (by rw [T.cR,hT];omega) fun w' h=>k w' ?_
  unfold aj
  rw [List.length_set,←oP]
  exact h
theorem D9 {s x:Operand} {t e:TypeId} {sz b c cx:Nat} {z:Value} {a A:aO} {xs ys:List α} (hT:T.sz=sz) (ht:P.underlying t=some (.slice e)) (hs:cp P e=some (sz,b,some z)) (SH:z.cells.size=sz)
    (Wd:ev Γ s=some (.slice a xs.length c)) (hx:ev Γ x=some (.slice A ys.length cx)) (ho:w.ownsRow 0 e T.sz (.slice a xs.length c) xs.length (T.all xs)) (hr:bH T w (.slice A ys.length cx) ys) (hb:(xs.length+ys.length)*b≤140737488355328) (gk:xs.length+ys.length≤9223372036854775807)
    (k:∀a' c' w',aE w [aj T (.slice a xs.length c) e xs] w' [aj T (.slice a' (xs++ys).length c') e (xs++ys)]→K (.slice a' (xs++ys).length c') w'):az P Γ w (.call { callee:= .builtin .append,args:= #[s,x],argTypes:= #[t,t] }) ty K:=by
  subst hT
  refine Rx ht hs SH (of_eq_true (Eq.trans Nat.blt_eq (eq_true T.pos))) Wd hx ho hr (T.Lo ys) hb gk fun a' c' w' h=>?_
  have:=k a' c' w'
  unfold aj at this
  rw [List.length_append,T.all_append] at this
  exact this h
theorem W2 {g:Nat} {cs:Array Value} {e:TypeId} {w':World} {xs:List α} {sz:Nat} (_hT:T.sz=sz) (h:aE w [] w' [row (.slice (some ⟨g,0,none⟩) xs.length xs.length) e sz xs.length cs.toList]) (hc:cs.toList=T.all xs):aE w [] w' [aj T (.slice (some ⟨g,0,none⟩) xs.length xs.length) e xs]:=by
  unfold aj
  rw [_hT,←hc]
  exact h
theorem BV {t e:TypeId} {len sz b:Nat} {z:Value} {ps:Array (Nat×Operand)} {vs:List (Nat×Value)} {cs:Array Value} {xs:List α} (hT:T.sz=sz) (ht:P.underlying t=some (.slice e)) (hs:cp P e=some (sz,b,some z)) (hp:Ng Γ ps.toList=some vs) (hlen:xs.length=len)
    (ur:Nat.ble (len*sz) 16777216=true) (CH:Nat.beq (len*sz) 0=false)
    (hf:Instr.fill (fun i=>some (i*sz,sz)) ((Array.range (len*sz)).map (z.cells[· %z.cells.size]!)) vs=some cs) (hcs:cs.size=len*sz) (MN:cs.toList=T.all xs)
    (k:∀w',aE w [] w' [aj T (.slice (some ⟨w.heap.size,0,none⟩) xs.length xs.length) e xs]→K (.slice (some ⟨w.heap.size,0,none⟩) xs.length xs.length) w'):az P Γ w (.buildSlice t len ps) ty K:=by
  subst hlen
  exact C1 ht hs hp ur CH hf hcs fun w' h=>k w' (W2 hT h MN)
theorem ie {t e:TypeId} {sz b:Nat} {z:Option Value} (hT:T.sz=sz) (ht:P.underlying t=some (.slice e)) (hs:cp P e=some (sz,b,z))
    (k:∀w',aE w [] w' [aj T (.slice (some ⟨w.heap.size,0,none⟩) ([]:List α).length 0) e []]→K (.slice (some ⟨w.heap.size,0,none⟩) ([]:List α).length 0) w'):az P Γ w (.buildSlice t 0 #[]) ty K:=
  Ag ht hs fun w' h=>k w' (by unfold aj;rw [hT];exact h)
theorem qS {z:Value} {d:α} (hz:z.cells.toList=T.enc d) (n:Nat):(madeCells z.cells (n*T.sz)).toList=T.all (List.replicate n d):=by
  have SH:z.cells.size=T.sz:=by rw [←Array.length_toList,hz,T.len]
  apply List.ext_getElem?
  intro m
  by_cases hm:m<n*T.sz
  · have h1:m=(m/T.sz)*T.sz+m%T.sz:=by rw [Nat.mul_comm];exact (Nat.div_add_mod m T.sz).symm
    have h2:m%T.sz<T.sz:=Nat.mod_lt _ T.pos
    have h3:m/T.sz<n:=Nat.div_lt_of_lt_mul (by rw [Nat.mul_comm];exact hm)
    have h4:=T.pL d (List.replicate n d) (m/T.sz) (m%T.sz) (by simpa using h3) h2
    rw [←h1] at h4
    rw [h4]
    have h5:(List.replicate n d).getD (m/T.sz) d=d:=by simp [List.getD_eq_getElem?_getD,h3]
    rw [h5,←hz]
    have h6:m%z.cells.size<z.cells.size:=by rw [SH];exact h2
    simp [madeCells,hm,SH,h2]
  · rw [List.getElem?_eq_none (by simp [madeCells];omega),List.getElem?_eq_none (by rw [T.cR];simp;omega)]
theorem iE {t e:TypeId} {x y:Operand} {kx ky:IntKind} {sz b:Nat} {z:Value} {l:Int} (n:Nat) (d:α) (hT:T.sz=sz) (ht:P.underlying t=some (.slice e)) (hs:cp P e=some (sz,b,some z)) (hz:z.cells.toList=T.enc d) (hx:ev Γ x=some (.int kx l)) (hy:ev Γ y=some (.int ky l))
    (hl:l=((n:Nat):Int)) (hb:b*n≤140737488355328) (hc:n≤9223372036854775807)
    (k:∀w',aE w [] w' [aj T (.slice (some ⟨w.heap.size,0,none⟩) (List.replicate n d).length n) e (List.replicate n d)]→K (.slice (some ⟨w.heap.size,0,none⟩) (List.replicate n d).length n) w'):az P Γ w (.makeSlice t x y) ty K:=by
  subst hl hT
  have DI:(b:Int)*(n:Int)≤140737488355328:=by
    have h:((b*n:Nat):Int)≤140737488355328:=by omega
    rwa [Int.natCast_mul] at h
  refine Ri ht hs hx hy oz (Int.le_refl _) DI oz fun w' h=>?_
  have:=k w'
  unfold aj at this
  rw [List.length_replicate,←qS hz] at this
  simp only [Int.toNat_natCast] at h ⊢
  refine this ?_
  rw [List.take_of_length_le (by simp [size_madeCells])] at h
  exact h
theorem S8 {t e:TypeId} {x y:Operand} {kx ky:IntKind} {sz b:Nat} {z:Value} {l:Int} (n:Nat) (hT:T.sz=sz) (ht:P.underlying t=some (.slice e)) (hs:cp P e=some (sz,b,some z)) (hx:ev Γ x=some (.int kx 0)) (hy:ev Γ y=some (.int ky l))
    (hl:l=((n:Nat):Int)) (hb:b*n≤140737488355328) (hc:n≤9223372036854775807)
    (k:∀w',aE w [] w' [aj T (.slice (some ⟨w.heap.size,0,none⟩) ([]:List α).length n) e []]→K (.slice (some ⟨w.heap.size,0,none⟩) ([]:List α).length n) w'):az P Γ w (.makeSlice t x y) ty K:=by
  subst hl hT
  have DI:(b:Int)*(n:Int)≤140737488355328:=by
    have h:((b*n:Nat):Int)≤140737488355328:=by omega
    rwa [Int.natCast_mul] at h
  refine Ri ht hs hx hy (Int.le_refl _) oz DI oz fun w' h=>?_
  simp only [Int.toNat_natCast,Int.toNat_zero,Nat.zero_mul,List.take_zero] at h ⊢
  exact k w' h
theorem aE.Cl (w:World) (T:Ty α) (e:TypeId):aE w [] w [aj T (.slice none ([]:List α).length 0) e []]:=by
  refine ⟨⟨fun c hc=>?_,by simp [dI,aj,row,Value.ownBlock]⟩,di.refl _ _,fun g hg=>by simp [dI,aj,row,Value.ownBlock] at hg⟩
  simp only [List.mem_singleton] at hc
  subst hc
  exact ⟨by simp [Ty.all],.inl ⟨rfl,rfl⟩⟩
end
section
variable {P:Program} {n:Nat} {ops:Array Oper} {Q:Exit→Act→World→Prop} {Γ:Env} {w:World} {ty:TypeId} {K:Value→World→Prop}
theorem W.agk {c:Operand} {x y:Code} {b:Bool} (hc:ev Γ c=some (.bool b)) (h1:b=true→W P n x Q Γ w) (h2:¬b=true→W P n y Q Γ w):W P n (.cond c x y) Q Γ w:=by
  cases b
  · exact W.iff hc (h2 (by simp))
  · exact W.ift hc (h1 rfl)
def bt (s:ByteArray) (j:Nat):Int:=((s.data.toList.getD j 0).toNat:Int)
theorem Nk {t:TypeId} {x ix:Operand} {s:ByteArray} {kd:IntKind} {i:Int} (j:Nat) (ht:P.underlying t=some .string) (hx:ev Γ x=some (.string s)) (hi:ev Γ ix=some (.int kd i)) (cN:i=((j:Nat):Int)) (hj:j<s.size) (k:K (.int .u8 (bt s j)) w):az P Γ w (.index t x ix) ty K:=by
  subst cN
  refine Rq ht hx hi oz (by simpa using hj) ?_
  have:(((s[((j:Nat):Int).toNat]'(by simpa using hj)).toNat:Nat):Int)=bt s j:=by
    have h2:j<s.data.size:=hj
    have h3:s.data.toList.getD j 0=s.data[j]'h2:=by rw [List.getD_eq_getElem?_getD,Array.getElem?_toList,Array.getElem?_eq_getElem h2];rfl
    unfold bt
    rw [h3]
    simp only [Int.toNat_natCast]
    rfl
  rw [this];exact k
theorem uE {t:TypeId} {x:Operand} {lo hi:Option Operand} {Oe Of:Option Value} {s:ByteArray} (l h:Int) (ln hn:Nat) (ht:P.underlying t=some .string) (hx:ev Γ x=some (.string s)) (DG:FY Γ lo=some Oe) (M0:FY Γ hi=some Of)
    (el:Oe=none∧l=0∨∃kd,Oe=some (.int kd l)) (eh:Of=none∧h=s.size∨∃kd,Of=some (.int kd h)) (hl:l=((ln:Nat):Int)) (hh:h=((hn:Nat):Int)) (hk:Vf l h s.size) (k:K (.string (s.extract ln hn)) w):az P Γ w (.slice t x lo hi none) ty K:=by
  subst hl hh
  exact Rb _ _ ht hx DG M0 el eh hk (by simpa using k)
theorem Rh {x y:Operand} {ts:Array TypeId} {kd:IntKind} {a b:Int} (hx:ev Γ x=some (.int kd a)) (hy:ev Γ y=some (.int kd b)) (k:K (.int kd (min a b)) w):az P Γ w (.call { callee:= .builtin .min,args:= #[x,y],argTypes:=ts }) ty K:=
  az.of_run (fun ρ hρ=>by
    have:(if b<a then b else a)=min a b:=by split<;>omega
    simp [ex,execOp,hρ x _ hx,hρ y _ hy,resolve,invoke,builtin,Builtin.min_,Builtin.min2,this]) k
theorem WL.af0 {rest:List Oper} {op:Op} {ty:TypeId} {pos:String} {after:Array Edge} {j t:Nat} {want:Bool} (hj:(ops[j]?).bind (·.dst)=some t) (hv:look Γ t=some (.bool want))
    (h:az P Γ w op ty fun _ w'=>WL P n ops Q rest Γ w'):WL P n ops Q ({ dst:=none,op,type:=ty,pos,after,guard:=some (j,want) } ::rest) Γ w:=
  fun a ha=>by
    unfold wpList
    rw [if_pos (by rw [pT ha rfl hj hv];simp)]
    exact .inl (h.wp ha fun v w' k=>k _ (ha.Xe v))
theorem Lk {a:Act} {t:Nat} {b c:Bool} (ha:du n a Γ) (ht:look Γ t=some (.bool b)) (hb:b=c):du n a ((t,.bool c)::Γ):=
  ha.sub fun u v e=>by
    by_cases hu:t=u
    · subst hu;rw [dL] at e;rw [ht,hb];exact e
    · rwa [dy _ _ hu] at e
theorem WL.PD {l:List Oper} (t:Nat) {b:Bool} (ht:look Γ t=some (.bool b)) (h1:b=true→WL P n ops Q l ((t,.bool true)::Γ) w) (h2:¬b=true→WL P n ops Q l ((t,.bool false)::Γ) w):WL P n ops Q l Γ w:=
  fun a ha=>by
    cases hb:b
    · exact h2 (by simp [hb]) a (Lk ha ht hb)
    · exact h1 hb a (Lk ha ht hb)
theorem WD.PD {T:List Nat} {Pn:List pO} (t:Nat) {b:Bool} (ht:look Γ t=some (.bool b)) (h1:b=true→WD P n ops Q T Pn ((t,.bool true)::Γ) w) (h2:¬b=true→WD P n ops Q T Pn ((t,.bool false)::Γ) w):WD P n ops Q T Pn Γ w:=
  WD.part t (p:=b=true) (by rw [ht];simp) h1 h2
theorem Ds {p:Nat→Prop} {a b:Nat} (h1:p a) (h2:p b):∀j,j∈[a,b]→p j:=by
  intro j hj;simp only [List.mem_cons,List.not_mem_nil,or_false] at hj;rcases hj with rfl|rfl<;>assumption
theorem B9 {α:Type} {R:α→α→Prop} (hs:∀a b,R a b→R b a) {F M:List α} {l:List Nat} (hl:l.map (fun i=>F[i]?)=M.map some) (hn:l.Nodup) (hF:F.Pairwise R):M.Pairwise R:=by
  rw [List.pairwise_iff_getElem] at hF ⊢
  have hlen:l.length=M.length:=by simpa using congrArg List.length hl
  have iP:∀i (h:i<M.length),∃h2:l[i]'oz<F.length,F[l[i]'oz]'h2=M[i]:=by
    intro i h
    have h1:(l.map (fun i=>F[i]?))[i]?=(M.map some)[i]?:=by rw [hl]
    simp only [List.getElem?_map,List.getElem?_eq_getElem (show i<l.length by omega),List.getElem?_eq_getElem h,Option.map_some,Option.some.injEq] at h1
    obtain ⟨h2,h3⟩:=List.getElem?_eq_some_iff.1 h1
    exact ⟨h2,h3⟩
  intro i j hi hj cN
  obtain ⟨a1,a2⟩:=iP i hi
  obtain ⟨b1,b2⟩:=iP j hj
  have c0:l[i]'oz≠l[j]'oz:=fun e=>by
    have:=(List.getElem_inj hn).1 e
    omega
  rw [←a2,←b2]
  rcases Nat.lt_or_gt_of_ne c0 with h|h
  · exact hF _ _ a1 b1 h
  · exact hs _ _ (hF _ _ b1 a1 h)
theorem aE.j7 {w w':World} {L M:List Chunk} {G:List (List Chunk)} (h:aA w L w' G) {l:List Nat} (hl:l.map (fun i=>G.flatten[i]?)=M.map some) (hn:decide l.Nodup=true):aE w L w' M:=by
  have rz:∀c,c∈M→c∈G.flatten:=fun c hc=>by
    have:some c∈M.map some:=List.mem_map_of_mem hc
    rw [←hl] at this
    obtain ⟨i,_,hi⟩:=List.mem_map.1 this
    exact List.mem_of_getElem? hi
  refine ⟨⟨fun c hc=>(aE.hp h).holds c (rz c hc),?_⟩,h.keep,fun g hg=>?_⟩
  · have h1:=(aE.hp h).nodup
    unfold dI at h1 ⊢
    rw [List.nodup_iff_pairwise_ne,List.pairwise_flatMap] at h1 ⊢
    exact ⟨fun c hc=>h1.1 c (rz c hc),B9 (fun a b NZ x hx y hy e=>NZ y hy x hx e.symm) hl (of_decide_eq_true hn) h1.2⟩
  · obtain ⟨c,hc,e⟩:=iA.1 hg
    exact aE.fresh h g (iA.2 ⟨c,rz c hc,e⟩)
def J9 (tmps:Array Value) (r:ResultVar):Sem Value:=match r with| .tmp t=>pure (tmps.getD t undef)| .cell a t=>do loadVar t (←asAddr (tmps.getD a undef))
theorem rj (fn:Func) (tmps:Array Value):results fn tmps=(do let vs←fn.results.mapM (J9 tmps);pure (if h:vs.size=1 then vs[0] else .tuple vs)):=rfl
def qN (P:Program) (Γ:Env) (w:World) (r:ResultVar) (v:Value):Prop:=
  ∀tmps:Array Value,(∀t u,look Γ t=some u→tmps.getD t undef=u)→Sem.run P (J9 tmps r) w= .ok v w
theorem W6 {t:Tmp} {v:Value} (h:look Γ t=some v):qN P Γ w (.tmp t) v:=fun tmps ht=>by simp only [J9,ht t v h];rfl
theorem OV {a:Tmp} {t:TypeId} {d:TypeDesc} {g off s b:Nat} {z:Option Value} {cs:Array Value} {e:TypeId} (us:List Value) (hu:P.underlying t=some d) (hd:lV d=true) (hs:cp P t=some (s,b,z)) (h:look Γ a=some (.pointer (some ⟨g,off,none⟩))) (hb:w.heap[g]?=some (.cells cs e (0,0)))
    (hl:us.length=s) (hc:(cs.toList.drop off).take s=us):qN P Γ w (.cell a t) (.agg us.toArray):=fun tmps ht=>by
  simp only [J9,ht a _ h,asAddr,loadVar]
  have qV:∀j v,us[j]?=some v→w.cell? ((⟨g,off,none⟩:Addr).add j)=some v:=fun j u hj=>by
    rw [mw,jt hb]
    rw [←hc,List.getElem?_take] at hj
    split at hj
    · simpa using hj
    · cases hj
  subst hl
  simp [k7 hu,hd,ko hs,run_loadCells_list (P:=P) (w:=w) _ us qV]
theorem X.aa8 {fn:Func} {R:Value→World→Prop} {r1:ResultVar} (hr:fn.results= #[r1]) {v1:Value} (h1:qN P Γ w r1 v1) (h:R v1 w):X n (bodyPost P fn (bj R)) .ret Γ w:=
  fun a ha=>bodyPost_ret (v:=v1) (by
    have e1:=h1 a.tmps ha.slot
    simp [rj,hr,e1]) ha.defers ⟨_,rfl,h⟩
theorem X.aa7 {fn:Func} {R:Value→World→Prop} {r1 r2:ResultVar} (hr:fn.results= #[r1,r2]) {v1 v2:Value} (h1:qN P Γ w r1 v1) (h2:qN P Γ w r2 v2) (h:R (.tuple #[v1,v2]) w):X n (bodyPost P fn (bj R)) .ret Γ w:=
  fun a ha=>bodyPost_ret (v:= .tuple #[v1,v2]) (by
    have e1:=h1 a.tmps ha.slot
    have e2:=h2 a.tmps ha.slot
    simp [rj,hr,e1,e2]) ha.defers ⟨_,rfl,h⟩
theorem aA.Bl {w w':World} {L A B:List Chunk} {G:List (List Chunk)} (h:aA w L w' G) (i j:Nat) (cN:Nat.beq i j=false) (hi:G[i]?=some A) (hj:G[j]?=some B):Hp w' (A++B):=by
  have c0:i≠j:=by intro e;subst e;simp at cN
  have p1:=jm G i A hi
  have p2:=jm (G.set i []) j B (by rw [List.getElem?_set_ne c0];exact hj)
  have h1:=(Hp.perm (aE.hp h) (p1.trans (p2.append_left A)))
  rw [←List.append_assoc] at h1
  exact h1.left
theorem aA.gh {w w1 w2:World} {L A B A' B' C:List Chunk} {G:List (List Chunk)} (h:aA w L w1 G) (i j:Nat) (cN:Nat.beq i j=false) (hi:G[i]?=some A) (hj:G[j]?=some B) (k:aE w1 (A++B) w2 (A'++B'++C)):aA w L w2 ((G.set i A').set j B'++[C]):=by
  have c0:i≠j:=by intro e;subst e;simp at cN
  have SN:(G.set i [])[j]?=some B:=by rw [List.getElem?_set_ne c0];exact hj
  have p1:=jm G i A hi
  have p2:=jm (G.set i []) j B SN
  have p:=p1.trans (p2.append_left A)
  rw [←List.append_assoc] at p
  have u:=aE.frame (aE.perm h p) k
  refine aE.perm u ?_
  have amA:((G.set i A').set j [])[j]?=some []:=by
    have:j<G.length:=(List.getElem?_eq_some_iff.1 hj).1
    simp [this]
  have q1:=mU (G.set i []) j B B' SN
  have NY:((G.set i []).set j B')[i]?=some []:=by
    have:i<G.length:=(List.getElem?_eq_some_iff.1 hi).1
    rw [List.getElem?_set_ne (Ne.symm c0)];simp [this]
  have q2:=mU ((G.set i []).set j B') i [] A' NY
  have e1:((G.set i []).set j B').set i []=(G.set i []).set j B':=by rw [List.set_comm _ _ (Ne.symm c0),List.set_set]
  have e2:((G.set i []).set j B').set i A'=(G.set i A').set j B':=by rw [List.set_comm _ _ (Ne.symm c0),List.set_set]
  rw [e1,e2] at q2
  simp only [List.flatten_append,List.flatten_cons,List.flatten_nil,List.append_nil]
  refine List.Perm.trans ?_ (q2.append_right C)
  refine List.Perm.trans ?_ ((q1.append_left A').append_right C)
  simp only [List.append_assoc]
  refine List.Perm.append_left A' (List.Perm.append_left B' ?_)
  exact List.perm_append_comm
theorem aA.onX {w w1 w2:World} {L A B C:List Chunk} {G:List (List Chunk)} (h:aA w L w1 G) (i:Nat) (hi:G[i]?=some A) (k:aE w1 A w2 (B++C)):aA w L w2 (G.set i B++[C]):=by
  refine aE.perm (aE.frame (aE.perm h (jm G i A hi)) k) ?_
  simp only [List.flatten_append,List.flatten_cons,List.flatten_nil,List.append_nil,List.append_assoc]
  refine List.Perm.trans ?_ ((mU G i A B hi).append_right C)
  rw [List.append_assoc]
  exact List.Perm.append_left B List.perm_append_comm
theorem D8 {α:Type} {T:Ty α} {t e:TypeId} {x hi:Operand} {kd:IntKind} {a:aO} {c sz b:Nat} {z:Option Value} {xs:List α} (h:Int) (hn:Nat) (hT:T.sz=sz) (ht:P.underlying t=some (.slice e)) (hs:cp P e=some (sz,b,z)) (hx:ev Γ x=some (.slice a xs.length c)) (hh:ev Γ hi=some (.int kd h))
    (ho:w.ownsRow 0 e T.sz (.slice a xs.length c) xs.length (T.all xs)) (cN:h=((hn:Nat):Int)) (hle:hn≤xs.length) (k:∀w',aE w [aj T (.slice a xs.length c) e xs] w' [aj T (.slice a (xs.take hn).length c) e (xs.take hn)]→K (.slice a (xs.take hn).length c) w'):az P Γ w (.slice t x none (some hi) none) ty K:=by
  subst cN hT
  have hlen:(xs.take hn).length=hn:=by simp;omega
  have hc:xs.length≤c:=by
    rcases ho.2 with ⟨h1,h2⟩|⟨g,cap,cur,h1,_,_,h2,_⟩
    · omega
    · injection h1 with _ _ h1;omega
  have key:=k w
  rw [hlen] at key
  refine CU 0 (hn:Int) ht hs hx rfl (by simp [FY,hh]) (.inl ⟨rfl,rfl⟩) (.inr ⟨kd,rfl⟩) ⟨by omega,by omega,by omega⟩ ?_
  have e1:ez (.slice a xs.length c) T.sz (0:Int).toNat ((hn:Nat):Int).toNat= .slice a hn c:=by
    simp only [ez,Int.toNat_zero,Int.toNat_natCast,Nat.zero_mul,Nat.sub_zero]
    split
    · rfl
    · cases a<;>simp [Addr.add]
  rw [e1]
  refine key ?_
  have ho':w.ownsRow 0 e T.sz (.slice a hn c) hn (T.all (xs.take hn))∨(a=none∧hn=0∧c=0):=by
    rcases ho.2 with ⟨h1,h2⟩|⟨g,cap,cur,h1,h3,h4,h5,h6,h7,h8⟩
    · injection h1 with h1 _ h3
      exact .inr ⟨h1,by omega,h3⟩
    · injection h1 with h1 _ h9
      subst h1 h9
      refine .inl ⟨by rw [T.cR,hlen],.inr ⟨g,c,cur,rfl,h3,h4,by omega,h6,h7,?_⟩⟩
      have:T.all (xs.take hn)=(T.all xs).take (hn*T.sz):=by
        have e3:T.all xs=T.all (xs.take hn)++T.all (xs.drop hn):=by rw [←T.all_append,List.take_append_drop]
        have e4:(T.all (xs.take hn)).length=hn*T.sz:=by rw [T.cR,hlen]
        rw [e3,←e4,List.take_left]
      rw [this,←h8,List.take_take,Nat.min_eq_left (Nat.mul_le_mul_right _ hle)]
  have ho2:w.ownsRow 0 e T.sz (.slice a hn c) hn (T.all (xs.take hn)):=by
    rcases ho' with h1|⟨rfl,rfl,rfl⟩
    · exact h1
    · exact ⟨by simp [Ty.all],.inl ⟨rfl,rfl⟩⟩
  unfold aj
  rw [hlen]
  refine ⟨⟨fun c' GV=>?_,?_⟩,di.refl _ _,fun g hg=> .inl ?_⟩
  · simp only [List.mem_singleton] at GV;subst GV;exact p6 ho2
  · cases a<;>simp [dI,row,Value.ownBlock]
  · cases a with
    | none=>simp [dI,row,Value.ownBlock] at hg
    | some a=>simpa [dI,row,Value.ownBlock] using hg
end
theorem ej {α:Type} {T:Ty α} {e:TypeId} {w w':World} {L:List Chunk} {G:List (List Chunk)} (h:aA w L w' G):aE w L w' [aj T (.slice none ([]:List α).length 0) e []]:=
  ((aA.of (G:=[]) h.ag rfl).im (aE.Cl w' T e)).one 0 rfl
theorem bH.P0 {α:Type} {T:Ty α} {w:World} {a:aO} {n c:Nat} {xs:List α} (h:bH T w (.slice a n c) xs) (ha:a=none):xs=[]:=by
  obtain ⟨A,cap,he,hl,_,hr⟩:=h
  subst ha;cases he
  cases xs with
  | nil=>rfl
  | cons x xs=>
    have h0:0<(T.all (x::xs)).length:=by rw [hl];exact Nat.mul_pos (by simp) T.pos
    obtain ⟨ad,h1,_⟩:=hr 0 _ (List.getElem?_eq_getElem h0)
    cases h1
section
variable {P:Program} {n:Nat} {ops:Array Oper} {Q:Exit→Act→World→Prop} {Γ:Env} {w:World} {rest:List Oper} {ty:TypeId}
theorem aA.pm {w w':World} {L:List Chunk} {G G':List (List Chunk)} (h:aA w L w' G) (l:List Nat) (hl:l.map (fun i=>G.flatten[i]?)=G'.flatten.map some) (hn:decide l.Nodup=true):aA w L w' G':=aA.of (aE.j7 h hl hn) rfl
theorem sc {y:Code} (h:W P n y Q Γ w):W P n .skip (Exit.then (y.wp P Q) Q) Γ w:=W.skip (X.AJ h)
theorem W.lp {c:Code} (ks:List Nat) {B:Env} {R:List (List Chunk)} {L:List Chunk} (I:Env→List (List Chunk)→List Chunk→Nat→Env→World→Prop) (m:Nat) {Γ':Env} (h0:I B R L m Γ' w) (hk:Sx.pick Γ ks=Γ')
    (round:∀m Γ w,I B R L m Γ w→W P n c (Exit.then (fun a' w'=>∃m',m'<m∧∃Γ',du n a' Γ'∧I B R L m' Γ' w') Q) Γ w):W P n (.loop c) Q Γ w:=
  W.pick ks hk (W.loop (I B R L) m h0 round)
theorem W.ct {x y:Code} {B:Env} {R G:List (List Chunk)} {L:List Chunk} {w0:World} (bs:List Nat) (k:Nat) (hB:Sx.pick Γ bs=B) (hH:aA w0 L w G) (hR:G.drop k=R) (I:Env→List (List Chunk)→List Chunk→Env→World→Prop) (h1:W P n x (Exit.then (fun a' w'=>∃Γ',du n a' Γ'∧I B R L Γ' w') Q) Γ w) (h2:∀Γ w,I B R L Γ w→W P n y Q Γ w):W P n (.seq x y) Q Γ w:=W.cut (I B R L) h1 h2
theorem tq {T:List Nat} {Pn:List pO} (bX:fv ops=true) (k:Nat) {o:Oper} {d:Nat} {v:Value} (ho:ops[k]?=some o) (hd:o.dst=some d) (hD:∀w',az P Γ w' o.op o.type fun v' lZ=>v'=v∧lZ=w')
    (h:WD P n ops Q (k::T) (⟨k,v,fun _=>True⟩::Pn) ((d,v)::Γ) w) (CK:Nat.blt d n=true:=by rfl) (hT:T.contains k=false:=by rfl) (ry:(dh ops k).all T.contains=true:=by rfl) (hw:lY ops Γ o=some true:=by rfl):WD P n ops Q T Pn Γ w:=
  WD.take bX k v (fun _=>True) ho hd CK hT ry trivial (.inl ⟨hw,fun w' _=>hD w'⟩) h
theorem tu {T:List Nat} {Pn:List pO} (bX:fv ops=true) (k:Nat) {o:Oper} {d:Nat} (ho:ops[k]?=some o) (hd:o.dst=some d)
    (h:WD P n ops Q (k::T) (⟨k,undef,fun _=>True⟩::Pn) ((d,undef)::Γ) w) (CK:Nat.blt d n=true:=by rfl) (hT:T.contains k=false:=by rfl) (ry:(dh ops k).all T.contains=true:=by rfl) (hw:lY ops Γ o=some false:=by rfl):WD P n ops Q T Pn Γ w:=
  WD.take bX k undef (fun _=>True) ho hd CK hT ry trivial (.inr ⟨hw,rfl⟩) h
theorem tw {T:List Nat} {Pn:List pO} (bX:fv ops=true) (k:Nat) (C:World→Prop) (hC:C w) {o:Oper} {d:Nat} {v:Value} (ho:ops[k]?=some o) (hd:o.dst=some d) (hD:∀w',C w'→az P Γ w' o.op o.type fun v' lZ=>v'=v∧lZ=w')
    (h:WD P n ops Q (k::T) (⟨k,v,C⟩::Pn) ((d,v)::Γ) w) (CK:Nat.blt d n=true:=by rfl) (hT:T.contains k=false:=by rfl) (ry:(dh ops k).all T.contains=true:=by rfl) (hw:lY ops Γ o=some true:=by rfl):WD P n ops Q T Pn Γ w:=
  WD.take bX k v C ho hd CK hT ry hC (.inl ⟨hw,hD⟩) h
theorem tr {α:Type} {U:Ty α} {v0:Value} {xs:List α} {T:List Nat} {Pn:List pO} (bX:fv ops=true) (k:Nat) (hC:bH U w v0 xs) {o:Oper} {d:Nat} {v:Value} (ho:ops[k]?=some o) (hd:o.dst=some d) (hD:∀w',bH U w' v0 xs→az P Γ w' o.op o.type fun v' lZ=>v'=v∧lZ=w')
    (h:WD P n ops Q (k::T) (⟨k,v,fun w'=>bH U w' v0 xs⟩::Pn) ((d,v)::Γ) w) (CK:Nat.blt d n=true:=by rfl) (hT:T.contains k=false:=by rfl) (ry:(dh ops k).all T.contains=true:=by rfl) (hw:lY ops Γ o=some true:=by rfl):WD P n ops Q T Pn Γ w:=
  WD.take bX k v _ ho hd CK hT ry hC (.inl ⟨hw,hD⟩) h
theorem tb {g:Nat} {ob:Obj} {T:List Nat} {Pn:List pO} (bX:fv ops=true) (k:Nat) (hC:w.heap[g]?=some ob) {o:Oper} {d:Nat} {v:Value} (ho:ops[k]?=some o) (hd:o.dst=some d) (hD:∀w',w'.heap[g]?=some ob→az P Γ w' o.op o.type fun v' lZ=>v'=v∧lZ=w')
    (h:WD P n ops Q (k::T) (⟨k,v,fun w'=>w'.heap[g]?=some ob⟩::Pn) ((d,v)::Γ) w) (CK:Nat.blt d n=true:=by rfl) (hT:T.contains k=false:=by rfl) (ry:(dh ops k).all T.contains=true:=by rfl) (hw:lY ops Γ o=some true:=by rfl):WD P n ops Q T Pn Γ w:=
  WD.take bX k v (fun w'=>w'.heap[g]?=some ob) ho hd CK hT ry hC (.inl ⟨hw,hD⟩) h
theorem lo {T:List Nat} {Pn:List pO} {j:Nat} {o:Oper} (Sn:List pO) (ho:ops[j]?=some o) (hf:Pn.filter (fun p=> !(Dq ops j).contains p.k)=Sn)
    (hD:az P Γ w o.op o.type fun v w'=>Still w' Sn∧WD P n ops Q (j::T) Sn (B7 Γ o.dst v) w') (hT:T.contains j=false:=by rfl) (hp:(dh ops j).all T.contains=true:=by rfl)
    (hd:(match o.dst with|some d=>Nat.blt d n|none=>true)=true:=by rfl) (hw:lY ops Γ o=some true:=by rfl):Sp P n ops Q T Pn Γ w j:=⟨o,Sn,ho,hT,hp,hd,hw,hf,hD⟩
theorem wo {T:List Nat} {Pn:List pO} (bX:fv ops=true) (j:Nat) (h:Sp P n ops Q T Pn Γ w j) (Fw:((List.range ops.size).all fun i=>[j].contains i||T.contains i|| !((dh ops i).all T.contains))=true:=by rfl):WD P n ops Q T Pn Γ w:=WD.abH bX j Fw h
end
theorem gv {p:Prop} (h:p:=by simp;omega):p:=h
def oi:Value→Value→Bool
  | .int _ a,.int _ b=>decide (a=b)
  | .string a,.string b=>decide (a=b)
  | .bool a,.bool b=>decide (a=b)
  | _,_=>true
def kV:List Value→List Value→Bool
  | [x],[y]=>oi x y
  | x::xs,y::ys=>oi x y&&kV xs ys
  | _,_=>true
def s5 (P:Program) (t:TypeId) (x y:Value):Bool:=
  match P.underlying t,x,y with
  | some (.int k),.int a _,.int b _=>decide (a=k)&&decide (b=k)
  | some .bool,.bool _,.bool _=>true
  | some .string,.string _,.string _=>true
  | _,_,_=>false
def rD (P:Program):Nat→List Field→List Value→List Value→Bool
  | _,[],[],[]=>true
  | i,f::fs,x::xs,y::ys=>(f.name != "_")&&(Nat.beq f.offset i)&&s5 P f.type x y&&rD P (i+1) fs xs ys
  | _,_,_,_=>false
section
variable {P:Program} {Γ:Env} {w:World} {ty:TypeId} {K:Value→World→Prop}
theorem ve {t:TypeId} {x y:Value} {d o:Nat} {X Y:Array Value} (h:s5 P t x y=true) (hx:X[o]?=some x) (hy:Y[o]?=some y):
    (part t X o).run P w= .ok x w∧(part t Y o).run P w= .ok y w∧(Op.equalIn (d+1) t x y).run P w= .ok (oi x y) w:=by
  unfold s5 at h
  split at h
  · rename_i k a n b m hu
    simp only [Bool.and_eq_true,decide_eq_true_eq] at h
    obtain ⟨rfl,rfl⟩:=h
    refine ⟨?_,?_,?_⟩
    · simp [part,isAgg,run_underlying hu,hx]
    · simp [part,isAgg,run_underlying hu,hy]
    · simp [Op.equalIn,run_underlying hu,oi];rfl
  · rename_i a b hu
    refine ⟨?_,?_,?_⟩
    · simp [part,isAgg,run_underlying hu,hx]
    · simp [part,isAgg,run_underlying hu,hy]
    · simp [Op.equalIn,run_underlying hu,oi];rfl
  · rename_i a b hu
    refine ⟨?_,?_,?_⟩
    · simp [part,isAgg,run_underlying hu,hx]
    · simp [part,isAgg,run_underlying hu,hy]
    · have:=run_equalIn_string (P:=P) w d t a b hu
      rw [this];simp [oi,toList_inj]
  · cases h
theorem Em {d:Nat} {X Y:Array Value} :∀ {fs:List Field} {i:Nat} {xs ys:List Value},rD P i fs xs ys=true→(∀j,j<xs.length→X[i+j]?=xs[j]?)→(∀j,j<ys.length→Y[i+j]?=ys[j]?)→
    (Op.eqFields (d+1) X Y fs).run P w= .ok (kV xs ys) w
  | [],i,[],[],_,_,_=>by simp [Op.eqFields,kV]
  | f::fs,i,x::xs,y::ys,h,hx,hy=>by
    simp only [rD,Bool.and_eq_true,bne_iff_ne,ne_eq] at h
    obtain ⟨⟨⟨hn,ho⟩,h1⟩,h2⟩:=h
    have ho:=Nat.eq_of_beq_eq_true ho
    have ex:=hx 0 (by simp);have ey:=hy 0 (by simp)
    simp only [Nat.add_zero,List.getElem?_cons_zero] at ex ey
    obtain ⟨p1,p2,p3⟩:=ve (w:=w) (d:=d) (o:=f.offset) h1 (by rw [ho];exact ex) (by rw [ho];exact ey)
    have ih:=Em (d:=d) (X:=X) (Y:=Y) h2 (fun j hj=>by have:=hx (j+1) gv;rw [show i+1+j=i+(j+1) by omega,this];simp) (fun j hj=>by have:=hy (j+1) gv;rw [show i+1+j=i+(j+1) by omega,this];simp)
    have hc:kV (x::xs) (y::ys)=(oi x y&&kV xs ys):=by
      cases xs<;>cases ys<;>simp [kV]
    simp only [Op.eqFields,ne_eq,hn,not_false_eq_true,if_true,Sem.run_bind,p1,p2,p3,Result.andThen_ok,hc]
    cases hb:oi x y
    · simp
    · simp [ih]
theorem L1 {t:TypeId} {xs ys:List Value} (ht:P.underlying t=some (.struct (P.fieldsOf t))) (hp:P.stoodInHeld t=false) (h:rD P 0 (P.fieldsOf t).toList xs ys=true):
    (Op.equalIn 10000 t (.agg xs.toArray) (.agg ys.toArray)).run P w= .ok (kV xs ys) w:=by
  rw [run_equalIn_struct w 9999 t xs.toArray ys.toArray ht hp]
  exact Em (d:=9998) h (fun j hj=>by simp) (fun j hj=>by simp)
end
def aC {α:Type} (f:α→Chunk) (l:List α):Chunk:=many (l.map f)
theorem bH.len {α:Type} {T:Ty α} {w:World} {a:aO} {n c:Nat} {xs:List α} (h:bH T w (.slice a n c) xs):n=xs.length:=by
  obtain ⟨A,cap,e,_⟩:=h
  cases e;rfl
theorem dQ {α:Type} {T:Ty α} {P:Program} {Γ:Env} {w:World} {ty:TypeId} {K:Value→World→Prop} {s x:Operand} {t e:TypeId} {sz b c cx n m:Nat} {z:Value} {a A:aO} {xs ys:List α} (hT:T.sz=sz) (ht:P.underlying t=some (.slice e)) (hs:cp P e=some (sz,b,some z)) (SH:z.cells.size=sz)
    (Wd:ev Γ s=some (.slice a n c)) (hx:ev Γ x=some (.slice A m cx)) (hn:n=xs.length) (ho:w.ownsRow 0 e T.sz (.slice a n c) xs.length (T.all xs)) (hr:bH T w (.slice A m cx) ys) (hb:(xs.length+ys.length)*b≤140737488355328) (gk:xs.length+ys.length≤9223372036854775807)
    (k:∀a' c' w',aE w [aj T (.slice a n c) e xs] w' [aj T (.slice a' (xs++ys).length c') e (xs++ys)]→K (.slice a' (xs++ys).length c') w'):az P Γ w (.call { callee:= .builtin .append,args:= #[s,x],argTypes:= #[t,t] }) ty K:=by
  subst hn
  have hm:=hr.len
  subst hm
  exact D9 hT ht hs SH Wd hx ho hr hb gk k
structure ga (σ α:Type) where
  T:Ty α
  e:TypeId
  A:σ→aO
  C:σ→Nat
  X:σ→List α
  N:σ→Nat
section
variable {σ α:Type} {w w':World} {L:List Chunk} {G:List (List Chunk)}
def ga.row (I:ga σ α) (p:σ):Chunk:=aj I.T (.slice (I.A p) (I.N p) (I.C p)) I.e (I.X p)
def ga.Rd (I:ga σ α) (w:World) (ps:List σ):Prop:=∀p,p∈ps→bH I.T w (.slice (I.A p) (I.N p) (I.C p)) (I.X p)
theorem aE.kR {β:Type} (f:β→Chunk) (w:World):aE w [] w [aC f []]:=
  ⟨⟨fun c hc=>by simp only [List.mem_singleton] at hc;subst hc;exact Hp.nil w,by simp [dI,aC,many]⟩,di.refl _ _,fun g hg=>by simp [dI,aC,many] at hg⟩
theorem XX {c:Chunk} (h:c.holds w):Hp w [c]:=⟨fun c' hc=>by simp only [List.mem_singleton] at hc;subst hc;exact h,by simpa [dI] using c.nd w h⟩
theorem MA {β:Type} {f:β→Chunk} {l:List β} {p:β} {M:List Chunk} (h:Hp w (aC f l::f p::M)):Hp w (aC f (l++[p])::M):=by
  have h1:=(gM (M:=f p::M)).1 h
  refine (gM (M:=M)).2 ?_
  simpa using h1
theorem aE.kC {β:Type} {f:β→Chunk} {l:List β} {p:β} (h:Hp w [aC f l,f p]):aE w [aC f l,f p] w [aC f (l++[p])]:=
  ⟨MA h,di.refl _ _,fun g hg=> .inl (by simpa [dI,aC,many] using hg)⟩
theorem aA.kC {β:Type} {f:β→Chunk} {l:List β} (p:β) (h:aA w L w' G) (i j:Nat) (cN:Nat.beq i j=false) (hi:G[i]?=some [aC f l]) (hj:G[j]?=some [f p]):
    aA w L w' ((G.set i [aC f (l++[p])]).set j []++[[]]):=
  h.gh (A':=[aC f (l++[p])]) (B':=[]) (C:=[]) i j cN hi hj (aE.kC (h.Bl i j cN hi hj))
theorem Mz {β:Type} {f:β→Chunk} {l:List β} {p:β} (h:Hp w [aC f l]) (hp:p∈l):(f p).holds w:=
  (h.holds (aC f l) (by simp):Hp w (l.map f)).holds _ (List.mem_map.2 ⟨p,hp,rfl⟩)
variable {I:ga σ α} {ps qs:List σ}
theorem ga.own (h:Hp w [aC I.row ps]):I.Rd w ps:=fun p hp=>
  Ca (nO (v:= .slice (I.A p) (I.N p) (I.C p)) (e:=I.e) (sz:=I.T.sz) (n:=(I.X p).length) (vs:=I.T.all (I.X p)) (Mz (f:=I.row) h hp))
theorem ga.Rd.at (h:I.Rd w ps) (k:aA w [] w' G):I.Rd w' ps:=fun p hp=>(h p hp).at k
theorem ga.Rd.get (h:I.Rd w ps) (d:σ) (k:Nat) (hk:k<ps.length):bH I.T w (.slice (I.A (ps.getD k d)) (I.N (ps.getD k d)) (I.C (ps.getD k d))) (I.X (ps.getD k d)):=
  h _ (by simp [List.getD_eq_getElem?_getD,List.getElem?_eq_getElem hk])
theorem au {l:List σ} {d:σ} {k:Nat} (hk:k<l.length):l.getD k d∈l:=by simp [List.getD_eq_getElem?_getD,List.getElem?_eq_getElem hk]
end
section
variable {P:Program} {Γ:Env} {w:World} {ty:TypeId} {K:Value→World→Prop} {α:Type} {T:Ty α}
theorem NB (xs:List α) (j:Nat) (x':α) (hj:j<xs.length):T.all (xs.set j x')=(T.all xs).take (j*T.sz)++T.enc x'++(T.all xs).drop (j*T.sz+T.sz):=by
  have e1:xs.set j x'=xs.take j++[x']++xs.drop (j+1):=by rw [List.set_eq_take_append_cons_drop,if_pos hj];simp
  have e2:T.all (xs.take j)=(T.all xs).take (j*T.sz):=by
    have e3:T.all xs=T.all (xs.take j)++T.all (xs.drop j):=by rw [←T.all_append,List.take_append_drop]
    have e4:(T.all (xs.take j)).length=j*T.sz:=by rw [T.cR,List.length_take,Nat.min_eq_left oz]
    rw [e3,←e4,List.take_left]
  have e5:T.all (xs.drop (j+1))=(T.all xs).drop (j*T.sz+T.sz):=by
    have e3:T.all xs=T.all (xs.take (j+1))++T.all (xs.drop (j+1)):=by rw [←T.all_append,List.take_append_drop]
    have e4:(T.all (xs.take (j+1))).length=j*T.sz+T.sz:=by rw [T.cR];simp only [List.length_take];rw [Nat.min_eq_left oz,Nat.add_mul,Nat.one_mul]
    rw [e3,←e4,List.drop_left]
  rw [e1,T.all_append,T.all_append,e2,e5];simp [Ty.all]
theorem EN {v:Value} {e:TypeId} {xs ys:List α} {us:List Value} {o:Nat} (ho:w.ownsRow 0 e T.sz v xs.length (T.all xs)) (h1:us.all (·.oneCell')=true) (cX:o+us.length≤xs.length*T.sz) (CH:0<us.length)
    (hl:ys.length=xs.length) (VW:T.all ys=(T.all xs).take o++us++(T.all xs).drop (o+us.length)):
    ∃g cs cap,v= .slice (some ⟨g,0,none⟩) xs.length cap∧w.heap[g]?=some (.cells cs e (0,0))∧o+us.length≤cs.size∧
      aE w [aj T v e xs] (w.setRow g (cs.toList.take o++us++cs.toList.drop (o+us.length)).toArray) [aj T v e ys]:=by
  obtain ⟨k1,k2⟩:=ho
  rcases k2 with ⟨rfl,h0⟩|⟨g,cap,cur,rfl,_,h3,h4,h5,h6,h7⟩
  · rw [h0,Nat.zero_mul] at cX;omega
  · have DF:xs.length*T.sz≤cur.size:=by rw [h6];exact Nat.mul_le_mul_right _ h4
    have V5:o+us.length≤cur.size:=Nat.le_trans cX DF
    refine ⟨g,cur,cap,rfl,h3,V5,?_⟩
    have hu:=aE.setRow (UX:=(cur.toList.take o++us++cur.toList.drop (o+us.length)).toArray) h3
    have Ac:=hu.hp.bm (g:=g) (cs:=(cur.toList.take o++us++cur.toList.drop (o+us.length)).toArray) (e:=e) (by simp)
    refine ⟨⟨fun c hc=>?_,by simp [dI,aj,row,Value.ownBlock]⟩,?_,fun g' hg=> .inl ?_⟩
    · simp only [List.mem_singleton] at hc;subst hc
      show World.ownsRow _ 0 e T.sz _ ys.length (T.all ys)
      rw [hl]
      refine ⟨by rw [T.cR,hl],.inr ⟨g,cap,_,rfl,Nat.zero_le _,Ac,h4,h5,?_,?_⟩⟩
      · simp [←h6];omega
      · rw [VW,←h7]
        have a1:(cur.toList.take (xs.length*T.sz)).take o=cur.toList.take o:=by rw [List.take_take,Nat.min_eq_left oz]
        have l1:(cur.toList.take o).length=o:=by simp;omega
        have a2:(cur.toList.take (xs.length*T.sz)).drop (o+us.length)=(cur.toList.drop (o+us.length)).take (xs.length*T.sz-(o+us.length)):=by rw [List.drop_take]
        rw [a1,a2]
        simp only [List.toList_toArray]
        have l2:(cur.toList.take o++us).length=o+us.length:=by rw [List.length_append,l1]
        rw [List.take_append,List.take_of_length_le (by rw [l2];exact cX),l2]
    · have:=hu.keep;simpa [dI,aj,row,bm,Value.ownBlock] using this
    · simpa [dI,aj,row,Value.ownBlock] using hg
theorem elemAt (g n cap k:Nat):bP (.slice (some ⟨g,0,none⟩) n cap) k= .pointer (some ⟨g,k,none⟩):=by simp [bP,mw]
theorem OB {t e:TypeId} {x y:Operand} {v:Value} {s b:Nat} {z:Option Value} {xs:List α} {us:List Value} (j:Nat) (x':α) (hT:T.sz=s) (hs:cp P t=some (s,b,z)) (hx:ev Γ x=some (bP v (j*s))) (hy:ev Γ y=some (.agg us.toArray))
    (he:T.enc x'=us) (ho:w.ownsRow 0 e T.sz v xs.length (T.all xs)) (hj:j<xs.length) (k:∀w',aE w [aj T v e xs] w' [aj T v e (xs.set j x')]→K undef w'):az P Γ w (.store t x y) ty K:=by
  subst hT he
  have SK:(T.enc x').length=T.sz:=T.len x'
  have Qx:(T.enc x').all (·.oneCell')=true:=by rw [List.all_eq_true];exact fun u hu=>T.one x' u hu
  obtain ⟨g,cs,cap,rfl,hb,hle,hu⟩:=EN (ys:=xs.set j x') (us:=T.enc x') (o:=j*T.sz) ho Qx (by rw [SK,←Nat.succ_mul];exact Nat.mul_le_mul_right _ hj) (by rw [SK];exact T.pos) (by simp) (by rw [SK];exact NB xs j x' hj)
  rw [elemAt] at hx
  refine az.sx (w':=w.setRow g (cs.toList.take (j*T.sz)++T.enc x'++cs.toList.drop (j*T.sz+(T.enc x').length)).toArray) (fun ρ hρ=>?_) (k _ hu)
  simp only [ex,execOp,hρ x _ hx,hρ y _ hy,Instr.storeAt,Instr.sureAddr,storeVar,Value.cells]
  have:=run_storeCells_at P g (j*T.sz) e (T.enc x') 0 cs w hb (by simpa using hle) (by simpa using Qx)
  simp only [Nat.add_zero] at this
  simp [ko hs,SK,this]
theorem OA {t e:TypeId} {x lo:Operand} {kd:IntKind} {a:aO} {n c sz b:Nat} {z:Option Value} {l:Int} (i:Nat) (ht:P.underlying t=some (.slice e)) (hs:cp P e=some (sz,b,z)) (hx:ev Γ x=some (.slice a n c)) (hl:ev Γ lo=some (.int kd l))
    (cN:l=((i:Nat):Int)) (DH:i≤n) (hc:n≤c) (k:K (ez (.slice a n c) sz i n) w):az P Γ w (.slice t x (some lo) none none) ty K:=by
  subst cN
  refine CU (i:Int) (n:Int) ht hs hx (by simp [FY,hl]) rfl (.inr ⟨kd,rfl⟩) (.inl ⟨rfl,rfl⟩) ⟨by omega,by omega,by omega⟩ ?_
  simpa using k
theorem L0 {t e cty:TypeId} {zv:Value} {g o n c:Nat} {cs:Array Value} {e':TypeId} (ht:P.underlying t=some (.slice e)) (hz:∀w,(zeroValue e).run P w= .ok zv w) (hn:0<n) (hb:w.heap[g]?=some (.cells cs e' (0,0)))
    (hle:o+(Builtin.zeroCells zv.cells n).toList.length≤cs.size) (h1:(Builtin.zeroCells zv.cells n).toList.all (·.oneCell')=true):
    (Builtin.clear_ #[t] cty #[.slice (some ⟨g,o,none⟩) n c]).run P w= .ok (.tuple #[]) (w.setRow g (cs.toList.take o++(Builtin.zeroCells zv.cells n).toList++cs.toList.drop (o+(Builtin.zeroCells zv.cells n).toList.length)).toArray):=by
  have:=run_storeCells_at P g o e' (Builtin.zeroCells zv.cells n).toList 0 cs w hb (by rw [Nat.add_zero];exact hle) (fun u hu=>List.all_eq_true.1 h1 u hu)
  simp only [Nat.add_zero] at this
  obtain ⟨m,rfl⟩:∃m,n=m+1:=⟨n-1,by omega⟩
  simp [Builtin.clear_,run_underlying ht,hz,this]
theorem zH {z:Value} {d:α} (hz:z.cells.toList=T.enc d) (n:Nat):(Builtin.zeroCells z.cells n).toList=T.all (List.replicate n d):=by
  have hs:z.cells.size=T.sz:=by rw [←Array.length_toList,hz,T.len]
  have e:Builtin.zeroCells z.cells n=madeCells z.cells (n*T.sz):=by unfold Builtin.zeroCells madeCells;rw [hs]
  rw [e];exact qS hz n
theorem Td {t e:TypeId} {x:Operand} {a:aO} {c sz b:Nat} {z:Value} {xs:List α} (i:Nat) (d:α) (hT:T.sz=sz) (ht:P.underlying t=some (.slice e)) (hs:cp P e=some (sz,b,some z)) (hz:z.cells.toList=T.enc d)
    (hx:ev Γ x=some (ez (.slice a xs.length c) sz i xs.length)) (ho:w.ownsRow 0 e T.sz (.slice a xs.length c) xs.length (T.all xs)) (hi:i≤xs.length)
    (k:∀w',aE w [aj T (.slice a xs.length c) e xs] w' [aj T (.slice a xs.length c) e (xs.take i++List.replicate (xs.length-i) d)]→K (.tuple #[]) w'):az P Γ w (.call { callee:= .builtin .clear,args:= #[x],argTypes:= #[t] }) ty K:=by
  subst hT
  have hl:(xs.take i++List.replicate (xs.length-i) d).length=xs.length:=by simp;omega
  rcases Nat.eq_or_lt_of_le hi with he|cX
  · have e1:xs.take i++List.replicate (xs.length-i) d=xs:=by rw [he];simp
    rw [e1] at k
    refine az.of_run (fun ρ hρ=>?_) (k w (aE.refl (XX (p6 ho))))
    simp only [ex,execOp,resolve,invoke,builtin,Sem.run_bind,Sem.run_pure,Result.andThen_ok,List.map_toArray,List.map_cons,List.map_nil,hρ x _ hx]
    have:(Builtin.clear_ #[t] ty #[ez (.slice a xs.length c) T.sz i xs.length]).run P w= .ok (.tuple #[]) w:=by
      simp only [ez,he,Nat.sub_self]
      cases (if c=xs.length then a else a.map (·.add (xs.length*T.sz)))<;>simp [Builtin.clear_,run_underlying ht]
    simp [this]
  · have hc:xs.length≤c:=by
      rcases ho.2 with ⟨h1,h2⟩|⟨g,cap,cur,h1,_,_,h2,_⟩
      · omega
      · injection h1 with _ _ h1;omega
    have hzl:=zH (T:=T) hz (xs.length-i)
    have hzn:(Builtin.zeroCells z.cells (xs.length-i)).toList.length=(xs.length-i)*T.sz:=by rw [hzl,T.cR];simp
    have Qx:(Builtin.zeroCells z.cells (xs.length-i)).toList.all (·.oneCell')=true:=by rw [hzl,List.all_eq_true];exact fun u hu=>T.Lo _ u hu
    have hmul:i*T.sz+(xs.length-i)*T.sz=xs.length*T.sz:=by rw [←Nat.add_mul];congr 1;omega
    obtain ⟨g,cs,cap,hv,hb,hle,hu⟩:=EN (ys:=xs.take i++List.replicate (xs.length-i) d) (us:=(Builtin.zeroCells z.cells (xs.length-i)).toList) (o:=i*T.sz) ho Qx (by rw [hzn,hmul];exact Nat.le_refl _) (by rw [hzn];exact Nat.mul_pos oz T.pos) hl (by
      rw [T.all_append,←hzl,hzn,hmul]
      have e3:T.all xs=T.all (xs.take i)++T.all (xs.drop i):=by rw [←T.all_append,List.take_append_drop]
      have e4:(T.all (xs.take i)).length=i*T.sz:=by rw [T.cR,List.length_take,Nat.min_eq_left hi]
      have e5:(T.all xs).drop (xs.length*T.sz)=[]:=List.drop_of_length_le (by rw [T.cR];exact Nat.le_refl _)
      rw [e5,e3,←e4,List.take_left];simp)
    injection hv with ha _ _
    subst ha
    have e6:ez (.slice (some ⟨g,0,none⟩) xs.length c) T.sz i xs.length= .slice (some ⟨g,i*T.sz,none⟩) (xs.length-i) (c-i):=by
      simp only [ez];rw [if_neg oz];simp [Addr.add];exact fun h=>h.symm
    rw [e6] at hx
    have hk:=k _ (by rw [hl] at*;exact hu)
    refine az.of_run (fun ρ hρ=>?_) hk
    simp only [ex,execOp,resolve,invoke,builtin,Sem.run_bind,Sem.run_pure,Result.andThen_ok,List.map_toArray,List.map_cons,List.map_nil,hρ x _ hx]
    rw [L0 ht (fun w=>sk hs) oz hb hle Qx]
    rfl
theorem OF {t e:TypeId} {x:Operand} {a:aO} {n c sz b:Nat} {z:Value} {xs:List α} (i:Nat) (d:α) (hT:T.sz=sz) (ht:P.underlying t=some (.slice e)) (hs:cp P e=some (sz,b,some z)) (hz:z.cells.toList=T.enc d)
    (hx:ev Γ x=some (ez (.slice a n c) sz i n)) (ho:w.ownsRow 0 e T.sz (.slice a n c) xs.length (T.all xs)) (hn:n=xs.length) (hi:i≤n)
    (k:∀w',aE w [aj T (.slice a n c) e xs] w' [aj T (.slice a n c) e (xs.take i++List.replicate (n-i) d)]→K (.tuple #[]) w'):az P Γ w (.call { callee:= .builtin .clear,args:= #[x],argTypes:= #[t] }) ty K:=by
  subst hn;exact Td i d hT ht hs hz hx ho hi k
theorem OE {t e:TypeId} {x hi:Operand} {kd:IntKind} {a:aO} {n c sz b:Nat} {z:Option Value} {xs:List α} (h:Int) (hn:Nat) (hT:T.sz=sz) (ht:P.underlying t=some (.slice e)) (hs:cp P e=some (sz,b,z)) (hx:ev Γ x=some (.slice a n c)) (hh:ev Γ hi=some (.int kd h))
    (ho:w.ownsRow 0 e T.sz (.slice a n c) xs.length (T.all xs)) (SL:n=xs.length) (cN:h=((hn:Nat):Int)) (hle:hn≤n) (k:∀w',aE w [aj T (.slice a n c) e xs] w' [aj T (.slice a (xs.take hn).length c) e (xs.take hn)]→K (.slice a (xs.take hn).length c) w'):az P Γ w (.slice t x none (some hi) none) ty K:=by
  subst SL;exact D8 h hn hT ht hs hx hh ho cN hle k
theorem xY {a:aO} {n c sz m:Nat} {e:TypeId} {vs:List Value} (h:w.ownsRow 0 e sz (.slice a n c) m vs):n≤c:=by
  rcases h.2 with ⟨h1,h2⟩|⟨g,cap,cur,h1,_,_,h2,_⟩
  · injection h1 with _ h1 _;omega
  · injection h1 with _ h3 h1;omega
end
open Go.Sort
section
variable {w:World} {k:IntKind} {e:TypeId}
theorem xd (xs:List Int):(aw k).all xs=xs.map (Value.int k):=by
  induction xs with
  | nil=>rfl
  | cons x xs ih=>simp only [Ty.all,aw,List.flatMap_cons,List.map_cons,List.singleton_append] at*;rw [ih]
theorem uu {g n c:Nat} {xs:List Int} (ho:w.ownsRow 0 e (aw k).sz (.slice (some ⟨g,0,none⟩) n c) xs.length ((aw k).all xs)):Holds (Value.int k) w g 0 xs.toArray∧g<w.heap.size:=by
  have yx:=Ca ho
  obtain ⟨h1,h2⟩:=ho
  rcases h2 with ⟨h,_⟩|⟨g',cap,cur,hv,h2,h3,h4,h5,h6,h7⟩
  · cases h
  · cases hv
    refine ⟨fun j hj=>?_,lh h3⟩
    have SN:j<xs.length:=by simpa using hj
    obtain ⟨A,adR,he,_,_,hr⟩:=yx
    cases he
    obtain ⟨ad,ha,hc⟩:=hr j (.int k xs[j]) (by rw [xd];simp [SN])
    cases ha
    refine ⟨?_,by simp [World.frozen?,h3]⟩
    rw [mw] at hc
    simp only [Nat.zero_add] at hc ⊢
    rw [hc]
    simp [SN]
theorem BO {g n c q:Nat} {os:Array Obj} {xs ys:List Int} (ho:w.ownsRow 0 e (aw k).sz (.slice (some ⟨g,0,none⟩) n c) xs.length ((aw k).all xs)) (hl:ys.length=xs.length):
    aE w [aj (aw k) (.slice (some ⟨g,0,none⟩) n c) e xs] (grow (putRow (Value.int k) (Sort.ahead w q) g 0 ys.toArray) os) [aj (aw k) (.slice (some ⟨g,0,none⟩) n c) e ys]:=by
  obtain ⟨h1,h2⟩:=ho
  rcases h2 with ⟨h,_⟩|⟨g',cap,cur,hv,h2,h3,h4,h5,h6,h7⟩
  · cases h
  · cases hv
    have cX:=lh h3
    have hg:(grow (putRow (Value.int k) (Sort.ahead w q) g 0 ys.toArray) os).heap[g]?=some (.cells (putCells (Value.int k) 0 ys.toArray cur) e (0,0)):=by
      simp only [grow,putRow,mapBlock,Sort.ahead]
      rw [Array.getElem?_append_left (by simpa using cX),Array.getElem?_modify,if_pos rfl,h3]
      rfl
    have DF:xs.length≤cur.size:=by rw [h6];simp only [aw,Nat.mul_one];exact h4
    refine ⟨⟨fun c' hc=>?_,by simp [dI,aj,row,Value.ownBlock]⟩,⟨rfl,rfl,rfl,by simp [grow,putRow,mapBlock,Sort.ahead],fun i hi hs=>?_⟩,fun g' QI=> .inl (by simpa [dI,aj,row,Value.ownBlock] using QI)⟩
    · simp only [List.mem_singleton] at hc;subst hc
      show World.ownsRow _ 0 e (aw k).sz _ ys.length ((aw k).all ys)
      refine ⟨(aw k).cR ys,.inr ⟨g,c,putCells (Value.int k) 0 ys.toArray cur,by rw [hl],Nat.zero_le _,hg,by omega,h5,by simp [putCells,h6],?_⟩⟩
      rw [xd]
      simp only [aw,Nat.mul_one]
      apply List.ext_getElem?
      intro j
      simp only [List.getElem?_take,putCells,Array.getElem?_toList,Array.getElem?_mapIdx,List.getElem?_map]
      by_cases hj:j<ys.length
      · have Ab:j<cur.size:=by omega
        simp [hj,Ab]
      · simp [hj,List.getElem?_eq_none (by omega:ys.length≤j)]
    · have c0:g≠i:=by intro e';subst e';simp [dI,aj,row,Value.ownBlock] at hs
      simp only [grow,putRow,mapBlock,Sort.ahead]
      rw [Array.getElem?_append_left (by simpa using hi),Array.getElem?_modify,if_neg c0]
theorem Oh {α:Type} {T:Ty α} {L:List Chunk} {w':World} {g n c j:Nat} {ys zs:List α} (h:aE w L w' [aj T (.slice (some ⟨g,0,none⟩) n c) e ys]) (hj:j≤ys.length) (hz:ys.take j=zs):aE w L w' [aj T (.slice (some ⟨g,0,none⟩) zs.length c) e zs]:=by
  subst hz
  have hlen:(ys.take j).length=j:=by simp;omega
  have ho:=nO (h.hp.holds _ (List.mem_singleton.2 rfl))
  refine ⟨⟨fun c' hc=>?_,by simp [dI,aj,row,Value.ownBlock]⟩,h.keep,fun g' hg=>h.fresh g' (by simpa [dI,aj,row,Value.ownBlock] using hg)⟩
  simp only [List.mem_singleton] at hc;subst hc
  show World.ownsRow _ 0 e T.sz _ (ys.take j).length (T.all (ys.take j))
  rcases ho.2 with ⟨h1,_⟩|⟨g',cap,cur,hv,h2,h3,h4,h5,h6,h7⟩
  · cases h1
  · cases hv
    refine ⟨T.cR _,.inr ⟨g,c,cur,rfl,Nat.zero_le _,h3,by omega,h5,h6,?_⟩⟩
    have e3:T.all ys=T.all (ys.take j)++T.all (ys.drop j):=by rw [←T.all_append,List.take_append_drop]
    have e4:(T.all (ys.take j)).length=(ys.take j).length*T.sz:=T.cR _
    have e5:cur.toList.take ((ys.take j).length*T.sz)=(cur.toList.take (ys.length*T.sz)).take ((ys.take j).length*T.sz):=by rw [List.take_take,Nat.min_eq_left (Nat.mul_le_mul_right _ oz)]
    rw [e5,h7,e3,←e4,List.take_left]
end
section
variable {α:Type} {T:Ty α} {w w':World} {L:List Chunk} {G:List (List Chunk)} {v:Value} {xs:List α}
theorem aA.MH {lZ:World} {A:List Chunk} (h:aA w [] w' G) (i:Nat) (hi:G[i]?=some A) (k:di (dI A) w' lZ):di [] w lZ:=
  h.oG.step k fun g hg=> .inr ((aE.fresh h g ((iA.2 (by
    obtain ⟨c,hc,QI⟩:=iA.1 hg
    exact ⟨c,List.mem_flatten.2 ⟨A,List.mem_of_getElem? hi,hc⟩,QI⟩)))).resolve_left (by simp [dI]))
theorem aA.y8 {lZ:World} {A:List Chunk} {g:Nat} {cs:Array Value} {e:TypeId} (h:aA w L w' G) (i j:Nat) (cN:Nat.beq i j=false) (hi:G[i]?=some A) (hj:G[j]?=some [Sx.bm g cs e]) (k:di (dI A) w' lZ):lZ.heap[g]?=some (.cells cs e (0,0)):=
  k.obj (h.bm j hj) fun hm=>(h.Bl i j cN hi hj).apart hm (by simp [dI,Sx.bm])
theorem aA.O9 {lZ:World} {A:List Chunk} {e:TypeId} (h:aA w L w' G) (i j:Nat) (cN:Nat.beq i j=false) (hi:G[i]?=some A) (hj:G[j]?=some [aj T v e xs]) (k:di (dI A) w' lZ):bH T lZ v xs:=by
  refine (h.Kc j hj).keep k fun g hg hm=>(h.Bl i j cN hi hj).apart hm ?_
  obtain ⟨A',cap,rfl,_⟩:=h.Kc j hj
  cases A' with
  | none=>simp [Value.Jq] at hg
  | some ad=>simp [Value.Jq] at hg;simp [dI,aj,row,Value.ownBlock,hg]
end
section
variable {P:Program} {Γ:Env} {w:World} {ty:TypeId} {K:Value→World→Prop}
end
section
variable {β:Type} {f:β→Chunk} {l:List β} {w w':World} {L:List Chunk} {G:List (List Chunk)} {p:β} {i:Nat}
theorem IW (hi:i<l.length):(l[i]::l.eraseIdx i).Perm l:=by
  rw [List.eraseIdx_eq_take_drop_succ]
  have e:l=l.take i++l[i]::l.drop (i+1):=by rw [←List.drop_eq_getElem_cons hi,List.take_append_drop]
  refine List.perm_middle.symm.trans ?_
  rw [←e]
theorem set_perm (hi:i<l.length) (p:β):(l.set i p).Perm (p::l.eraseIdx i):=by
  rw [List.eraseIdx_eq_take_drop_succ,List.set_eq_take_append_cons_drop,if_pos hi]
  exact List.perm_middle
theorem Qb (d:β) (hi:i<l.length) (h:Hp w [aC f l]):aE w [aC f l] w [aC f (l.eraseIdx i),f (l.getD i d)]:=by
  have e:l.getD i d=l[i]:=by simp [List.getD_eq_getElem?_getD,List.getElem?_eq_getElem hi]
  have Fv:(l.map f).Perm ((l.eraseIdx i).map f++[f l[i]]):=by
    have h1:=(IW hi).symm.map f
    rw [List.map_cons] at h1
    exact h1.trans (List.perm_append_singleton _ _).symm
  have h1:Hp w (l.map f++[]):=gM.1 h
  rw [List.append_nil] at h1
  rw [e]
  refine ⟨gM.2 (h1.perm Fv),di.refl _ _,fun g hg=> .inl ?_⟩
  have h2:g∈dI ((l.eraseIdx i).map f++[f l[i]]):=by rw [←fF];exact hg
  have h3:g∈dI (l.map f):=(Fv.flatMap_right _).mem_iff.2 h2
  have h4:dI [aC f l]=dI (l.map f++[]):=fF _ _
  rw [h4,List.append_nil];exact h3
theorem TM (hi:i<l.length) (h:Hp w [aC f (l.eraseIdx i),f p]):aE w [aC f (l.eraseIdx i),f p] w [aC f (l.set i p)]:=by
  have Fv:((l.eraseIdx i).map f++[f p]).Perm ((l.set i p).map f):=by
    have h1:=(set_perm hi p).map f
    rw [List.map_cons] at h1
    exact (List.perm_append_singleton _ _).trans h1.symm
  have h1:=(gM.1 h).perm Fv
  refine ⟨?_,di.refl _ _,fun g hg=> .inl ?_⟩
  · refine gM.2 ?_
    rw [List.append_nil];exact h1
  · have h4:dI [aC f (l.set i p)]=dI ((l.set i p).map f++[]):=fF _ _
    rw [h4,List.append_nil] at hg
    have h5:g∈dI ((l.eraseIdx i).map f++[f p]):=(Fv.flatMap_right _).mem_iff.2 hg
    have h6:dI [aC f (l.eraseIdx i),f p]=dI ((l.eraseIdx i).map f++[f p]):=fF _ _
    rw [h6];exact h5
theorem aA.iw (d:β) (h:aA w L w' G) (j i:Nat) (hj:G[j]?=some [aC f l]) (hi:i<l.length):aA w L w' (G.set j [aC f (l.eraseIdx i)]++[[f (l.getD i d)]]):=
  h.onX (B:=[aC f (l.eraseIdx i)]) (C:=[f (l.getD i d)]) j hj (Qb d hi (h.cB j hj))
theorem aA.jl (p:β) (h:aA w L w' G) (j k i:Nat) (hjk:Nat.beq j k=false) (hj:G[j]?=some [aC f (l.eraseIdx i)]) (hk:G[k]?=some [f p]) (hi:i<l.length):aA w L w' ((G.set j [aC f (l.set i p)]).set k []++[[]]):=
  h.gh (A':=[aC f (l.set i p)]) (B':=[]) (C:=[]) j k hjk hj hk (TM hi (h.Bl j k hjk hj hk))
end
structure LR (α:Type) where
  a:aO
  n:Nat
  c:Nat
  xs:List α
def aW {α:Type} :Ty (LR α):=⟨1,fun p=>[.slice p.a p.n p.c],fun _=>rfl,fun d u hu=>by simp at hu;subst hu;rfl,by omega⟩
def ai {α:Type} :LR α:=⟨none,0,0,[]⟩
def bh {α:Type} (T:Ty α) (e:TypeId):ga (LR α) α:=⟨T,e,LR.a,LR.c,LR.xs,LR.n⟩
theorem aE.Ky {α:Type} (T:Ty α) (e:TypeId) (n:Nat) (w:World):aE w [] w [aC (bh T e).row (List.replicate n ai)]:=by
  have acQ:dI ((List.replicate n ai).map (bh T e).row)=[]:=by
    induction n with
    | zero=>rfl
    | succ n ih=>rw [List.replicate_succ,List.map_cons];simp only [dI,List.flatMap_cons] at ih ⊢;rw [ih];rfl
  have hh:Hp w ((List.replicate n ai).map (bh T e).row):=by
    refine ⟨fun c hc=>?_,by rw [acQ];simp⟩
    obtain ⟨p,hp,rfl⟩:=List.mem_map.1 hc
    have:=List.eq_of_mem_replicate hp
    subst this
    exact ⟨by simp [Ty.all,bh,ai],.inl ⟨rfl,rfl⟩⟩
  have h2:dI [aC (bh T e).row (List.replicate n ai)]=[]:=by
    have:=fF ((List.replicate n ai).map (bh T e).row) []
    rw [List.append_nil,acQ] at this;exact this
  exact ⟨gM.2 (by rw [List.append_nil];exact hh),di.refl _ _,fun g hg=>by rw [h2] at hg;simp at hg⟩
theorem Er {α:Type} {X:List (LR α)} {i:Nat} (hi:i<X.length) (v:Value) (e:TypeId) (ys:List α):
    aj aW v e (X.set i ⟨(X.getD i ai).a,(X.getD i ai).n,(X.getD i ai).c,ys⟩)=aj aW v e X:=by
  have h1:(aW:Ty (LR α)).all (X.set i ⟨(X.getD i ai).a,(X.getD i ai).n,(X.getD i ai).c,ys⟩)=aW.all X:=by
    have h2:=(aW:Ty (LR α)).wZ (X.getD i ai) X i 0 ⟨(X.getD i ai).a,(X.getD i ai).n,(X.getD i ai).c,ys⟩ (.slice (X.getD i ai).a (X.getD i ai).n (X.getD i ai).c) hi (Nat.zero_lt_one) rfl
    rw [←h2]
    apply List.ext_getElem?
    intro m
    rw [List.getElem?_set]
    split
    · rename_i hm
      subst hm
      have h3:=(aW:Ty (LR α)).pL ai X i 0 hi (Nat.zero_lt_one)
      rw [h3]
      split
      · rfl
      · rename_i h4;exact absurd (by rw [Ty.cR];show i*1+0<X.length*1;omega) h4
    · rfl
  unfold aj
  rw [h1,List.length_set]
theorem aA.xQ {α:Type} {w w':World} {L:List Chunk} {G:List (List Chunk)} {X:List (LR α)} {v:Value} {e:TypeId} (ys:List α) (h:aA w L w' G) (k i:Nat) (hk:G[k]?=some [aj aW v e X]) (hi:i<X.length):
    aA w L w' (G.set k [aj aW v e (X.set i ⟨(X.getD i ai).a,(X.getD i ai).n,(X.getD i ai).c,ys⟩)]):=by
  rw [Er hi]
  have:G.set k [aj aW v e X]=G:=by
    apply List.ext_getElem?
    intro m
    rw [List.getElem?_set]
    split
    · rename_i hm;subst hm
      split
      · exact hk.symm
      · rename_i h4;rw [List.getElem?_eq_none oz]
    · rfl
  rw [this];exact h
open Go.MapKept
section
variable {κ ν:Type} [DecidableEq κ]
def s4 (a:κ):List κ→Nat→Option Nat
  | [],_=>none
  | x::r,i=>if a=x then some i else s4 a r (i+1)
def getM:List (κ×ν)→κ→Option ν
  | [],_=>none
  | p::r,a=>if a=p.1 then some p.2 else getM r a
def jN:List (κ×ν)→κ→ν→List (κ×ν)
  | [],a,v=>[(a,v)]
  | p::r,a,v=>if a=p.1 then (a,v)::r else p::jN r a v
theorem s3 (m:List (κ×ν)) (a b:κ) (v:ν):getM (jN m a v) b=if b=a then some v else getM m b:=by
  induction m with
  | nil=>simp [jN,getM]
  | cons p r ih=>
    unfold jN
    split
    · rename_i h
      subst h
      simp only [getM]
      split<;>rfl
    · rename_i h
      simp only [getM,ih]
      split
      · rename_i h2;subst h2;rw [if_neg (fun e=>h e.symm)]
      · rfl
theorem getM_none {m:List (κ×ν)} {a:κ} :getM m a=none↔∀p,p∈m→p.1≠a:=by
  induction m with
  | nil=>simp [getM]
  | cons p r ih=>
    simp only [getM]
    split
    · rename_i h;simp [h]
    · rename_i h
      rw [ih]
      simp only [List.mem_cons,forall_eq_or_imp]
      exact ⟨fun h2=>⟨fun e=>h e.symm,h2⟩,fun h2=>h2.2⟩
theorem EG {m:List (κ×ν)} {a:κ} {v:ν} (h:getM m a=none):jN m a v=m++[(a,v)]:=by
  induction m with
  | nil=>rfl
  | cons p r ih=>
    simp only [getM] at h
    split at h
    · cases h
    · rename_i c0
      simp only [jN,if_neg c0,ih h,List.cons_append]
theorem nv (a:κ):∀(l:List κ) (i:Nat),(s4 a l i=none∧a∉l)∨∃j,s4 a l i=some (i+j)∧l[j]?=some a∧∀q,q<j→l[q]?≠some a
  | [],i=> .inl ⟨rfl,by simp⟩
  | x::r,i=>by
    unfold s4
    by_cases h:a=x
    · rw [if_pos h];exact .inr ⟨0,rfl,by simp [h],fun q hq=>by omega⟩
    · rw [if_neg h]
      rcases nv a r (i+1) with ⟨h1,h2⟩|⟨j,h1,h2,h3⟩
      · exact .inl ⟨h1,by simp [h,h2]⟩
      · refine .inr ⟨j+1,by rw [h1];congr 1;omega,by simpa using h2,fun q hq=>?_⟩
        cases q with
        | zero=>simp;exact fun e=>h e.symm
        | succ q=>simpa using h3 q oz
structure uS (P:Program) (k:TypeId) (enc:κ→Value):Prop where
  chk:∀(e:Bool) (a:κ) (w:World),(Instr.checkKey e 10000 k (enc a)).run P w= .ok () w
  find:∀(a:κ) (es:List MapEntry) (ks:List κ) (w:World),es.map (·.key)=ks.map enc→
    (Instr.findKey k (enc a) es).run P w= .ok ((s4 a ks 0).bind fun j=>(es[j]?).map fun e=>(j,e.val)) w
  bits:∀a,Instr.sameBits 10000 (enc a) (enc a)=true
theorem rE {d:TypeDesc} {enc:κ→Value} (hs:∀a b,Instr.sameNow d (enc a) (enc b)=some (decide (a=b))) (a:κ):
    ∀(es:List MapEntry) (ks:List κ) (i:Nat),es.map (·.key)=ks.map enc→Instr.findNow d (enc a) es i=some ((s4 a ks i).bind fun j=>(es[j-i]?).map fun e=>(j,e.val))
  | [],[],i,_=>rfl
  | [],_::_,i,h=>by simp at h
  | _::_,[],i,h=>by simp at h
  | e::es,x::ks,i,h=>by
    simp only [List.map_cons,List.cons.injEq] at h
    unfold Instr.findNow s4
    rw [h.1,hs]
    by_cases hx:a=x
    · simp [hx]
    · rw [if_neg hx,decide_eq_false hx]
      simp only
      rw [rE hs a es ks (i+1) h.2]
      congr 1
      rcases nv a ks (i+1) with ⟨h1,_⟩|⟨j,h1,h2,_⟩
      · rw [h1];rfl
      · rw [h1]
        simp only [Option.bind_some]
        have e1:i+1+j-(i+1)=j:=by omega
        have e2:i+1+j-i=j+1:=by omega
        rw [e1,e2]
        simp
theorem agi {P:Program} {k:TypeId} {q:IntKind} (hk:P.underlying k=some (.int q)):uS P k (fun a:Int=> .int q a) where
  chk:=fun e a w=>run_checkKey (d:= .int q) hk (by simp [IsKey]) e 9999
  find:=fun a es ks w h=>run_findKey hk (by
    have:=rE (d:= .int q) (enc:=fun a:Int=> .int q a) (fun a b=>by simp [Instr.sameNow];rfl) a es ks 0 h
    simpa using this)
  bits:=fun a=>by simp [Instr.sameBits]
theorem XC {P:Program} {k:TypeId} (hk:P.underlying k=some .string):uS P k (fun a:ByteArray=> .string a) where
  chk:=fun e a w=>run_checkKey (d:= .string) hk (by simp [IsKey]) e 9999
  find:=fun a es ks w h=>run_findKey hk (by
    have:=rE (d:= .string) (enc:=fun a:ByteArray=> .string a) (fun a b=>by
      simp only [Instr.sameNow]
      congr 1
      by_cases e:a=b
      · rw [decide_eq_true e];exact (bytes_beq a b).2 e
      · rw [decide_eq_false e]
        exact Bool.eq_false_iff.2 fun h=>e ((bytes_beq a b).1 h)) a es ks 0 h
    simpa using this)
  bits:=fun a=>by simp only [Instr.sameBits];exact (bytes_beq a a).2 rfl
end
section
variable {P:Program}
theorem U2 {em:Bool} {n:Nat} {t:TypeId} {x y:Value} {w:World} (h:s5 P t x y=true):(Instr.checkKey em (n+1) t x).run P w= .ok () w:=by
  unfold s5 at h
  split at h
  · rename_i hu;unfold Instr.checkKey;simp [run_underlying hu,Result.andThen]
  · rename_i hu;unfold Instr.checkKey;simp [run_underlying hu,Result.andThen]
  · rename_i hu;unfold Instr.checkKey;simp [run_underlying hu,Result.andThen]
  · cases h
theorem vg {em:Bool} {n:Nat} {X:Array Value} :∀ {fs:List Field} {i:Nat} {xs:List Value} (w:World),rD P i fs xs xs=true→(∀j,j<xs.length→X[i+j]?=xs[j]?)→
    (forIn fs PUnit.unit fun f _=>(if f.name≠ "_" then (do
      let v←part f.type X f.offset
      Instr.checkKey em (n+1) f.type v
      pure (ForInStep.yield PUnit.unit)) else pure (ForInStep.yield PUnit.unit):Sem (ForInStep PUnit))).run P w= .ok PUnit.unit w
  | [],i,[],w,_,_=>by simp
  | f::fs,i,x::xs,w,h,hx=>by
    simp only [rD,Bool.and_eq_true,bne_iff_ne,ne_eq] at h
    obtain ⟨⟨⟨hn,ho⟩,h1⟩,h2⟩:=h
    have ho:=Nat.eq_of_beq_eq_true ho
    have ex:=hx 0 (by simp)
    simp only [Nat.add_zero,List.getElem?_cons_zero] at ex
    obtain ⟨p1,_,_⟩:=ve (w:=w) (d:=0) (o:=f.offset) h1 (by rw [ho];exact ex) (by rw [ho];exact ex)
    have ih:=vg (em:=em) (n:=n) (X:=X) w h2 (fun j hj=>by have:=hx (j+1) gv;rw [show i+1+j=i+(j+1) by omega,this];simp)
    have hc:(Instr.checkKey em (n+1) f.type x).run P w= .ok () w:=U2 h1
    simp only [ne_eq] at ih
    simp only [List.forIn_cons,Sem.run_bind,ne_eq,hn,not_false_eq_true,if_true,p1,hc,Result.andThen_ok,Sem.run_pure,ih]
theorem vf {κ:Type} [DecidableEq κ] {k:TypeId} {enc:κ→Value} (heq:∀(a b:κ) (w:World),(Op.equal k (enc a) (enc b)).run P w= .ok (decide (a=b)) w) (a:κ):
    ∀(es:List MapEntry) (ks:List κ) (i:Nat) (w:World),es.map (·.key)=ks.map enc→(Instr.findAsking k (enc a) es i).run P w= .ok ((s4 a ks i).bind fun j=>(es[j-i]?).map fun e=>(j,e.val)) w
  | [],[],i,w,_=>by simp [Instr.findAsking,s4]
  | [],_::_,i,w,h=>by simp at h
  | _::_,[],i,w,h=>by simp at h
  | e::es,x::ks,i,w,h=>by
    simp only [List.map_cons,List.cons.injEq] at h
    unfold Instr.findAsking s4
    rw [h.1]
    simp only [Sem.run_bind,heq,Result.andThen_ok]
    by_cases hx:a=x
    · simp [hx]
    · rw [if_neg hx,decide_eq_false hx]
      simp only [Bool.false_eq_true,if_false]
      rw [vf heq a es ks (i+1) w h.2]
      congr 1
      rcases nv a ks (i+1) with ⟨h1,_⟩|⟨j,h1,h2,_⟩
      · rw [h1];rfl
      · rw [h1]
        simp only [Option.bind_some]
        have e1:i+1+j-(i+1)=j:=by omega
        have e2:i+1+j-i=j+1:=by omega
        rw [e1,e2]
        simp
def wb (p:Int×Int):Value:= .agg #[.int .i64 p.1,.int .i64 p.2]
theorem agh {k:TypeId} (hu:P.underlying k=some (.struct (P.fieldsOf k))) (hp:P.stoodInHeld k=false)
    (hf:∀x y z u:Int,rD P 0 (P.fieldsOf k).toList [.int .i64 x,.int .i64 y] [.int .i64 z,.int .i64 u]=true):uS P k wb where
  chk:=fun e a w=>by
    unfold Instr.checkKey
    simp only [Sem.run_bind,run_underlying hu,Result.andThen_ok,wb]
    rw [←Array.forIn_toList]
    have h1:=vg (em:=e) (n:=9998) (X:= #[Value.int .i64 a.1,.int .i64 a.2]) w (hf a.1 a.2 a.1 a.2) (fun j hj=>by simp)
    rw [h1];simp
  find:=fun a es ks w h=>by
    have e1:=run_findKey_eq (P:=P) (w:=w) (k:=k) (by simp [hu]) (wb a) es
    rw [e1]
    have:=vf (P:=P) (k:=k) (enc:=wb) (fun a b w=>by
      have h1:=L1 (w:=w) hu hp (hf a.1 a.2 b.1 b.2)
      have h2:kV [Value.int .i64 a.1,.int .i64 a.2] [.int .i64 b.1,.int .i64 b.2]=decide (a=b):=by
        obtain ⟨a1,a2⟩:=a;obtain ⟨b1,b2⟩:=b
        simp [kV,oi]
      rw [h2] at h1
      exact h1) a es ks 0 w h
    simpa using this
  bits:=fun a=>by simp [Instr.sameBits,wb]
end
def eD {κ ν:Type} (ek:κ→Value) (ev:ν→Value) (g:Nat) (m:List (κ×ν)):Chunk:=
  ⟨[g],fun w=>∃es clock,w.heap[g]?=some (.map es clock)∧es.toList.map (fun e=>(e.key,e.val))=m.map (fun p=>(ek p.1,ev p.2)),
    fun w w' h k=>by obtain ⟨es,c,h1,h2⟩:=k;exact ⟨es,c,(h g (by simp)).trans h1,h2⟩,
    fun w g' hg k=>by obtain ⟨es,c,h1,_⟩:=k;simp at hg;subst hg;exact lh h1,fun _ _=>by simp⟩
def pP {κ ν:Type} (w:World) (ek:κ→Value) (fW:ν→Value) (g:Nat) (m:List (κ×ν)):Prop:=∃es clock,w.heap[g]?=some (.map es clock)∧es.toList.map (fun e=>(e.key,e.val))=m.map (fun p=>(ek p.1,fW p.2))
section
variable {κ ν:Type} {P:Program} {Γ:Env} {w:World} {ty:TypeId} {K:Value→World→Prop} {ek:κ→Value} {fW:ν→Value}
theorem aA.po {w w':World} {L:List Chunk} {G:List (List Chunk)} {g:Nat} {m:List (κ×ν)} (h:aA w L w' G) (i:Nat) (hi:G[i]?=some [eD ek fW g m]):
    pP w' ek fW g m:=(h.cB i hi).holds (eD ek fW g m) (by simp)
theorem CB {m:List (κ×ν)} {es:Array MapEntry} (h:es.toList.map (fun e=>(e.key,e.val))=m.map (fun p=>(ek p.1,fW p.2))):es.toList.map (·.key)=(m.map Prod.fst).map ek:=by
  have h2:=congrArg (List.map Prod.fst) h
  simpa [Function.comp_def] using h2
theorem Rm {x:Operand} {t k e:TypeId} {g:Nat} {m:List (κ×ν)} (ht:P.underlying t=some (.map k e)) (hx:ev Γ x=some (.map (some g)))
    (hm:pP w ek fW g m) (kk:K (.int .i64 ((m.length:Nat):Int)) w):az P Γ w (.call { callee:= .builtin .len,args:= #[x],argTypes:= #[t] }) ty K:=by
  obtain ⟨es,clock,h1,h2⟩:=hm
  have hl:es.size=m.length:=by have:=congrArg List.length h2;simpa using this
  refine az.of_run (w':=w) (fun ρ hρ=>?_) kk
  simp [ex,execOp,hρ x _ hx,resolve,invoke,builtin,Builtin.len_,run_underlying ht,Go.MapKept.run_getObj_map h1,goInt,hl,Result.andThen]
end
section
variable {κ ν:Type} [DecidableEq κ] {P:Program} {Γ:Env} {w:World} {ty:TypeId} {K:Value→World→Prop} {ek:κ→Value} {fW:ν→Value}
theorem qm {t:TypeId} {κ ν:Type} (ek:κ→Value) (fW:ν→Value) (k:∀w',aE w [] w' [eD ek fW w.heap.size []]→K (.map (some w.heap.size)) w'):az P Γ w (.makeMap t none) ty K:=
  az.of_run (w':=w.alloc (.map #[] 0)) (fun ρ hρ=>by simp [ex,execOp,Go.RowKit.run_makeMap]) (k _ ⟨⟨fun c hc=>by
    simp only [List.mem_singleton] at hc;subst hc;exact ⟨#[],0,(heap_alloc w _).1,rfl⟩,by simp [dI,eD]⟩,
    ⟨rfl,rfl,rfl,by show w.heap.size≤(w.heap.push _).size;simp,fun j hj _=>(heap_alloc w _).2 j hj⟩,fun g hg=> .inr (by simp [dI,eD] at hg;omega)⟩)
theorem I2 {t k e:TypeId} {x:Operand} {kd:IntKind} {i:Int} {κ ν:Type} (ek:κ→Value) (fW:ν→Value) (ht:P.underlying t=some (.map k e)) (hx:ev Γ x=some (.int kd i)) (kk:∀w',aE w [] w' [eD ek fW w.heap.size []]→K (.map (some w.heap.size)) w'):az P Γ w (.makeMap t (some x)) ty K:=
  az.of_run (w':=w.alloc (.map #[] 0)) (fun ρ hρ=>by
    have h1:(Instr.makeMap t (some (.int kd i))).run P w= .ok (.map (some w.heap.size)) (w.alloc (.map #[] 0)):=by
      unfold Instr.makeMap
      simp only [Sem.run_bind,run_underlying ht,Result.andThen_ok,asInt]
      rfl
    simp [ex,execOp,hρ x _ hx,h1]) (kk _ ⟨⟨fun c hc=>by
    simp only [List.mem_singleton] at hc;subst hc;exact ⟨#[],0,(heap_alloc w _).1,rfl⟩,by simp [dI,eD]⟩,
    ⟨rfl,rfl,rfl,by show w.heap.size≤(w.heap.push _).size;simp,fun j hj _=>(heap_alloc w _).2 j hj⟩,fun g hg=> .inr (by simp [dI,eD] at hg;omega)⟩)
theorem Us {m:List (κ×ν)} {es:Array MapEntry} (a:κ) (h:es.toList.map (fun e=>(e.key,e.val))=m.map (fun p=>(ek p.1,fW p.2))):
    ((s4 a (m.map Prod.fst) 0).bind fun j=>(es.toList[j]?).map fun e=>(j,e.val)).map (fun x=>x.2)=(getM m a).map fW:=by
  have aux:∀(m:List (κ×ν)) (es:List MapEntry) (i:Nat),es.map (fun e=>(e.key,e.val))=m.map (fun p=>(ek p.1,fW p.2))→
      ((s4 a (m.map Prod.fst) i).bind fun j=>(es[j-i]?).map fun e=>(j,e.val)).map (fun x=>x.2)=(getM m a).map fW:=by
    intro m
    induction m with
    | nil=>intro es i _;rfl
    | cons p r ih=>
      intro es i h
      match es,h with
      | e::es,h=>
        simp only [List.map_cons,List.cons.injEq,Prod.mk.injEq] at h
        unfold getM
        simp only [List.map_cons]
        unfold s4
        by_cases hx:a=p.1
        · simp [hx,h.1.2]
        · rw [if_neg hx,if_neg hx,←ih es (i+1) h.2]
          rcases nv a (r.map Prod.fst) (i+1) with ⟨h1,_⟩|⟨j,h1,h2,_⟩
          · rw [h1];rfl
          · rw [h1]
            simp only [Option.bind_some]
            have e1:i+1+j-(i+1)=j:=by omega
            have e2:i+1+j-i=j+1:=by omega
            rw [e1,e2];simp
  have:=aux m es.toList 0 h
  simpa using this
theorem El {t k e:TypeId} {g:Nat} {m:List (κ×ν)} {a:κ} {s b:Nat} {d:ν} (ks:uS P k ek) (ht:P.underlying t=some (.map k e)) (hz:cp P e=some (s,b,some (fW d)))
    (hm:pP w ek fW g m) (c:Bool):
    (Instr.lookup t (.map (some g)) (ek a) c).run P w= .ok (if c then .tuple #[fW ((getM m a).getD d),.bool (getM m a).isSome] else fW ((getM m a).getD d)) w:=by
  obtain ⟨es,clock,h1,h2⟩:=hm
  have h3:=Us a h2
  unfold Instr.lookup
  simp only [Sem.run_bind,run_underlying ht,Result.andThen,Go.MapKept.run_getObj_map h1,Sem.run_pure,ks.chk,ks.find a es.toList _ w (CB h2)]
  cases hf:(s4 a (m.map Prod.fst) 0).bind fun j=>(es.toList[j]?).map fun e=>(j,e.val) with
  | none=>
    rw [hf] at h3
    have hg:getM m a=none:=by cases hgm:getM m a with
      | none=>rfl
      | some v=>rw [hgm] at h3;cases h3
    simp [hg,sk hz,Result.andThen]
  | some x=>
    rw [hf] at h3
    obtain ⟨v,hg,hv⟩:∃v,getM m a=some v∧fW v=x.2:=by
      cases hgm:getM m a with
      | none=>rw [hgm] at h3;cases h3
      | some v=>rw [hgm] at h3;exact ⟨v,rfl,by simpa using h3.symm⟩
    obtain ⟨j,u⟩:=x
    simp only at hv
    simp [hg,hv,Result.andThen]
theorem CV {t k e:TypeId} {x ix:Operand} {g:Nat} {m:List (κ×ν)} (a:κ) (d:ν) {s b:Nat} (ks:uS P k ek) (ht:P.underlying t=some (.map k e)) (hz:cp P e=some (s,b,some (fW d))) (hx:ev Γ x=some (.map (some g))) (hi:ev Γ ix=some (ek a))
    (hm:pP w ek fW g m) (kk:K (.tuple #[fW ((getM m a).getD d),.bool (getM m a).isSome]) w):az P Γ w (.lookup t x ix true) ty K:=
  az.of_run (fun ρ hρ=>by have:=El (a:=a) ks ht hz hm true;simp [ex,execOp,hρ x _ hx,hρ ix _ hi,this]) kk
theorem K8 {t k e:TypeId} {x ix:Operand} {g:Nat} {m:List (κ×ν)} (a:κ) (d:ν) {s b:Nat} (ks:uS P k ek) (ht:P.underlying t=some (.map k e)) (hz:cp P e=some (s,b,some (fW d))) (hx:ev Γ x=some (.map (some g))) (hi:ev Γ ix=some (ek a))
    (hm:pP w ek fW g m) (kk:K (fW ((getM m a).getD d)) w):az P Γ w (.lookup t x ix false) ty K:=
  az.of_run (fun ρ hρ=>by have:=El (a:=a) ks ht hz hm false;simp [ex,execOp,hρ x _ hx,hρ ix _ hi,this]) kk
theorem J5 {t k e:TypeId} {g:Nat} {m:List (κ×ν)} {a:κ} {v:ν} (ks:uS P k ek) (ht:P.underlying t=some (.map k e)) (hp:Hp w [eD ek fW g m]):
    ∃w',(Instr.mapUpdate t (.map (some g)) (ek a) (fW v)).run P w= .ok () w'∧aE w [eD ek fW g m] w' [eD ek fW g (jN m a v)]:=by
  obtain ⟨es,clock,h1,h2⟩:=(hp.holds (eD ek fW g m) (by simp):(eD ek fW g m).P w)
  have mk:∀es' I9,es'.toList.map (fun e=>(e.key,e.val))=(jN m a v).map (fun p=>(ek p.1,fW p.2))→aE w [eD ek fW g m] { w with heap:=w.heap.setIfInBounds g (.map es' I9) } [eD ek fW g (jN m a v)]:=fun es' I9 h3=>
    ⟨⟨fun c hc=>by simp only [List.mem_singleton] at hc;subst hc;exact ⟨es',I9,(heap_set h1).1,h3⟩,by simp [dI,eD]⟩,
      ⟨rfl,rfl,rfl,by simp,fun i hi hs=>(heap_set h1).2 i (fun e=>hs (by simp [dI,eD,e]))⟩,fun g' hg=> .inl (by simpa [dI,eD] using hg)⟩
  unfold Instr.mapUpdate
  simp only [Sem.run_bind,run_underlying ht,Result.andThen,Go.MapKept.run_getObj_map h1,Sem.run_pure,ks.chk,ks.find a es.toList _ w (CB h2)]
  have hlen:es.toList.length=m.length:=by have:=congrArg List.length h2;simpa using this
  rcases nv a (m.map Prod.fst) 0 with ⟨hf,hn⟩|⟨j,hf,hj,X6⟩
  · rw [hf]
    refine ⟨_,by simp [Go.MapKept.run_setObj_map _ h1],mk (es.push { key:=ek a,val:=fW v,born:=clock }) (clock+1) ?_⟩
    have hg:getM m a=none:=getM_none.2 fun p hp e=>hn (List.mem_map.2 ⟨p,hp,e⟩)
    rw [EG hg]
    simp [h2]
  · rw [hf]
    have MX:j<es.toList.length:=by
      have:=(List.getElem?_eq_some_iff.1 hj).1
      simp at this;omega
    have hjs:j<es.size:=by simpa using MX
    have acr:es[j].key=ek a:=by
      have h3:=congrArg (fun l=>l[j]?) (CB h2)
      simp only [List.getElem?_map] at h3 hj
      rw [List.getElem?_eq_getElem MX] at h3
      cases hmj:m[j]? with
      | none=>rw [hmj] at hj;cases hj
      | some p=>
        rw [hmj] at h3 hj
        simp only [Option.map_some,Option.some.injEq] at h3 hj
        rw [←hj];simpa using h3
    simp only [Nat.zero_add,Option.bind_some,List.getElem?_eq_getElem MX,Option.map_some,Sem.run_bind,Result.andThen]
    have jn:(Instr.keyThatStays (((es[j]?).map (·.key)).getD (ek a)) (ek a)).run P w= .ok (ek a) w:=by
      unfold Instr.keyThatStays
      rw [Array.getElem?_eq_getElem hjs]
      simp only [Option.map_some,Option.getD_some,acr,ks.bits,if_true,Sem.run_pure]
    rw [jn]
    refine ⟨_,by simp [Go.MapKept.run_setObj_map _ h1],mk (es.modify j fun e=> { key:=ek a,val:=fW v,born:=e.born }) clock ?_⟩
    have ID:∀(m:List (κ×ν)) (j:Nat),(m.map Prod.fst)[j]?=some a→(∀q,q<j→(m.map Prod.fst)[q]?≠some a)→jN m a v=m.set j (a,v):=by
      intro m
      induction m with
      | nil=>intro j h;simp at h
      | cons p r ih=>
        intro j h hq
        unfold jN
        cases j with
        | zero=>simp at h;rw [if_pos h.symm];rfl
        | succ j=>
          have h0:=hq 0 oz
          simp at h0
          rw [if_neg (fun e=>h0 e.symm)]
          rw [ih j (by simpa using h) (fun q hq'=>by simpa using hq (q+1) oz)]
          rfl
    rw [ID m j hj X6,List.map_set,←h2]
    apply List.ext_getElem?
    intro q
    simp only [List.getElem?_map,Array.getElem?_toList,Array.getElem?_modify,List.getElem?_set,List.length_map]
    by_cases hq:j=q
    · subst hq
      simp [hjs,acr]
    · simp [hq]
theorem iT {t k e:TypeId} {x ix y:Operand} {g:Nat} {m:List (κ×ν)} (a:κ) (v:ν) (ks:uS P k ek) (ht:P.underlying t=some (.map k e)) (hx:ev Γ x=some (.map (some g))) (hi:ev Γ ix=some (ek a)) (hy:ev Γ y=some (fW v)) (hp:Hp w [eD ek fW g m])
    (kk:∀w',aE w [eD ek fW g m] w' [eD ek fW g (jN m a v)]→K undef w'):az P Γ w (.mapUpdate t x ix y) ty K:=by
  obtain ⟨w',h1,h2⟩:=J5 (a:=a) (v:=v) ks ht hp
  exact az.sx (fun ρ hρ=>by simp [ex,execOp,hρ x _ hx,hρ ix _ hi,hρ y _ hy,h1]) (kk w' h2)
theorem Rp {t k e:TypeId} {x ix y:Operand} {g:Nat} {m:List (κ×ν)} (a:κ) (v:ν) (ks:uS P k ek) (ht:P.underlying t=some (.map k e)) (hx:ev Γ x=some (.map (some g))) (hi:ev Γ ix=some (ek a)) (hy:ev Γ y=some (fW v)) (hp:Hp w [eD ek fW g m])
    (kk:∀w',aE w [eD ek fW g m] w' [eD ek fW g (jN m a v)]→K undef w'):az P Γ w (.insert t x ix y) ty K:=by
  obtain ⟨w',h1,h2⟩:=J5 (a:=a) (v:=v) ks ht hp
  exact az.sx (fun ρ hρ=>by simp [ex,execOp,hρ x _ hx,hρ ix _ hi,hρ y _ hy,h1]) (kk w' h2)
end
structure ar where
  cls:List Int
  width:Int
  start:Int
  next:List Int
  acc:List Bool
def eE {α:Type} (p:α→Bool) (l:List α) (k:Nat):Int:=if h:k<l.length then (if p l[k] then (k:Int) else eE p l (k+1)) else-1
termination_by l.length-k
def pD {α:Type} (p:α→Bool) (l:List α):Int:=eE p l 0
theorem vD {α:Type} (p:α→Bool) (l:List α) (k:Nat) {d:α} (h:k<l.length) (hp:¬p (l.getD k d)=true):eE p l k=eE p l (k+1):=by
  have:l.getD k d=l[k]:=by simp [List.getD_eq_getElem?_getD,h]
  rw [this] at hp
  rw [eE,dif_pos h,if_neg hp]
theorem s7 {α:Type} (p:α→Bool) (l:List α) (k:Nat) {d:α} (h:k<l.length) (hp:p (l.getD k d)=true):eE p l k=(k:Int):=by
  have:l.getD k d=l[k]:=by simp [List.getD_eq_getElem?_getD,h]
  rw [this] at hp
  rw [eE,dif_pos h,if_pos hp]
theorem s8 {α:Type} (p:α→Bool) (l:List α) (k:Nat) (h:l.length≤k):eE p l k= -1:=by
  rw [eE,dif_neg oz]
def GL (P:Program) (f:FuncId) (fc:List Value) (p:Int→Bool) (w:World):Prop:=
  ∀w':World,di [] w w'→∀x:Int,Calls P f (#[.int .i64 x]++fc.toArray) w' (bj fun v lZ=>v= .bool (p x)∧aE w' [] lZ [])
theorem GL.keep {P:Program} {f:FuncId} {fc:List Value} {p:Int→Bool} {w w':World} (h:GL P f fc p w) (k:di [] w w'):GL P f fc p w':=fun w2 k2 x=>h w2 (k.trans k2) x
theorem s9 {α:Type} (p:α→Bool) (l:List α) (k:Nat):decide (eE p l k≥0)=(l.drop k).any p:=by
  rw [eE]
  split
  · rename_i h
    rw [List.drop_eq_getElem_cons h,List.any_cons]
    split
    · rename_i hp;simp [hp]
    · rename_i hp;rw [s9 p l (k+1)];simp [hp]
  · rename_i h
    rw [List.drop_eq_nil_of_le oz];simp
termination_by l.length-k
theorem Nc {α:Type} (p:α→Bool) (l:List α):decide (pD p l≥0)=l.any p:=by
  unfold pD;rw [s9];simp
def gL (l:List Int) (n:Int):Bool:=l.all fun x=>decide (0≤x∧x<n)
theorem LA (l:List Int) (n:Int):(!l.any fun x=>decide (x<0∨n≤x))=gL l n:=by
  unfold gL
  rw [List.not_any_eq_all_not]
  congr 1
  funext x
  by_cases h:0≤x∧x<n
  · have h2:¬(x<0∨n≤x):=by omega
    rw [decide_eq_true h,decide_eq_false h2];rfl
  · have h2:x<0∨n≤x:=by omega
    rw [decide_eq_false h,decide_eq_true h2];rfl
theorem jD {l:List Int} {n:Int} (h:gL l n=true) (i:Nat) (hi:i<l.length):0≤l.getD i 0∧l.getD i 0<n:=by
  unfold gL at h
  rw [List.all_eq_true] at h
  have:=h (l.getD i 0) (by rw [List.getD_eq_getElem?_getD,List.getElem?_eq_getElem hi];exact List.getElem_mem hi)
  simpa using this
def aN (d:ar):Bool:=
  decide (d.cls.length=259∧1≤d.width∧d.width≤259∧1≤d.acc.length∧d.acc.length≤4096∧(d.next.length:Int)=(d.acc.length:Int)*d.width∧0≤d.start∧d.start<(d.acc.length:Int))&&
  gL d.cls d.width&&gL d.next (d.acc.length:Int)
theorem P2 {a b A B:Int} (h0:0≤a) (h1:a≤A) (h2:0≤b) (h3:b≤B):0≤a*b∧a*b≤A*B:=
  ⟨Int.mul_nonneg h0 h2,Int.mul_le_mul h1 h3 h2 oz⟩
def bA (d:ar) (q:Int) (sym:Int):Int:=d.next.getD (q*d.width+d.cls.getD sym.toNat 0).toNat 0
def eQ (d:ar) (word:List Int) (k:Nat) (q:Int):Int:=
  if h:k<word.length then (if 0≤word[k]∧word[k]<259 then eQ d word (k+1) (bA d q word[k]) else-1) else q
termination_by word.length-k
def o6 (d:ar) (s:Int) (word:List Int):Int:=if aN d=true∧0≤s∧s<(d.acc.length:Int) then eQ d word 0 s else-1
theorem bo {d:ar} :aN d=true↔(d.cls.length=259∧1≤d.width∧d.width≤259∧1≤d.acc.length∧d.acc.length≤4096∧(d.next.length:Int)=(d.acc.length:Int)*d.width∧0≤d.start∧d.start<(d.acc.length:Int))∧
    gL d.cls d.width=true∧gL d.next (d.acc.length:Int)=true:=by
  unfold aN
  simp only [Bool.and_eq_true,decide_eq_true_eq,and_assoc]
theorem dS {d:ar} (hr:aN d=true) {q x:Int} (h0:0≤q) (h1:q<(d.acc.length:Int)) (h2:0≤x) (h3:x<d.width):
    0≤q*d.width∧q*d.width+x<(d.next.length:Int)∧(d.next.length:Int)≤1060864∧0≤d.next.getD (q*d.width+x).toNat 0∧d.next.getD (q*d.width+x).toNat 0<(d.acc.length:Int):=by
  obtain ⟨⟨a1,a2,a3,a4,a5,a6,a7,a8⟩,b1,b2⟩:=bo.1 hr
  have e1:0≤q*d.width:=Int.mul_nonneg h0 oz
  have e2:(q+1)*d.width≤(d.acc.length:Int)*d.width:=Int.mul_le_mul_of_nonneg_right oz oz
  have e3:(q+1)*d.width=q*d.width+d.width:=by rw [Int.add_mul,Int.one_mul]
  have e4:=(P2 (a:=(d.acc.length:Int)) (b:=d.width) (A:=4096) (B:=259) oz oz oz oz).2
  have e5:q*d.width+x<(d.next.length:Int):=by omega
  have e6:=jD b2 (q*d.width+x).toNat oz
  exact ⟨e1,e5,by omega,e6.1,e6.2⟩
theorem jM {d:ar} (hr:aN d=true) {c:Int} (h0:0≤c) (h1:c<259):c.toNat<d.cls.length∧0≤d.cls.getD c.toNat 0∧d.cls.getD c.toNat 0<d.width∧d.width≤259:=by
  obtain ⟨⟨a1,a2,a3,a4,a5,a6,a7,a8⟩,b1,b2⟩:=bo.1 hr
  have:=jD b1 c.toNat oz
  exact ⟨by omega,this.1,this.2,a3⟩
theorem J6 {d:ar} {s:Int} {word:List Int} (h:¬(!aN d)=true) (h0:0≤s) (h1:s<(d.acc.length:Int)):o6 d s word=eQ d word 0 s:=by
  have:aN d=true:=by simpa using h
  unfold o6;rw [if_pos ⟨this,h0,h1⟩]
theorem pW {d:ar} {s:Int} {word:List Int} (h:(!aN d)=true∨s<0∨(d.acc.length:Int)≤s):o6 d s word= -1:=by
  unfold o6
  rw [if_neg]
  rintro ⟨a,b,c⟩
  rcases h with h|h|h
  · simp [a] at h
  · omega
  · omega
theorem sl {d:ar} {word:List Int} {k:Nat} {q:Int} (h:k<word.length) (h0:0≤word.getD k 0) (h1:word.getD k 0<259):eQ d word k q=eQ d word (k+1) (d.next.getD (q*d.width+d.cls.getD (word.getD k 0).toNat 0).toNat 0):=by
  have e:word.getD k 0=word[k]:=by simp [List.getD_eq_getElem?_getD,h]
  rw [e] at h0 h1 ⊢
  rw [eQ,dif_pos h,if_pos ⟨h0,h1⟩];rfl
theorem En {d:ar} {word:List Int} {k:Nat} {q:Int} (h:k<word.length) (h0:¬(0≤word.getD k 0∧word.getD k 0<259)):eQ d word k q= -1:=by
  have e:word.getD k 0=word[k]:=by simp [List.getD_eq_getElem?_getD,h]
  rw [e] at h0
  rw [eQ,dif_pos h,if_neg h0]
theorem vh {d:ar} {word:List Int} {k:Nat} {q:Int} (h:word.length≤k):eQ d word k q=q:=by
  rw [eQ,dif_neg oz]
theorem xF {d:ar} (hr:aN d=true) (word:List Int) (k:Nat) (q:Int) (h0:0≤q) (h1:q<(d.acc.length:Int)):eQ d word k q= -1∨0≤eQ d word k q∧eQ d word k q<(d.acc.length:Int):=by
  rw [eQ]
  split
  · split
    · rename_i h
      have hs:=jM hr h.1 h.2
      have hi:=dS hr h0 h1 hs.2.1 hs.2.2.1
      exact xF hr word (k+1) _ hi.2.2.2.1 hi.2.2.2.2
    · exact .inl rfl
  · exact .inr ⟨h0,h1⟩
termination_by word.length-k
theorem Ts (d:ar) (s:Int) (word:List Int):o6 d s word= -1∨0≤o6 d s word∧o6 d s word<(d.acc.length:Int):=by
  unfold o6
  split
  · rename_i h;exact xF h.1 word 0 s h.2.1 h.2.2
  · exact .inl rfl
def jx (d:ar) (word:List Int):Bool:=if 0≤o6 d d.start word then d.acc.getD (o6 d d.start word).toNat false else false
theorem vN {d:ar} {word:List Int} (h:¬o6 d d.start word≥0):jx d word=false:=by unfold jx;rw [if_neg oz]
theorem ot {d:ar} {word:List Int} (h:o6 d d.start word≥0):jx d word=d.acc.getD (o6 d d.start word).toNat false:=by unfold jx;rw [if_pos oz]
theorem Az {l:List Int} {n:Int} (h:∀i,i<l.length→0≤l.getD i 0∧l.getD i 0<n):gL l n=true:=by
  unfold gL
  rw [List.all_eq_true]
  intro x hx
  obtain ⟨i,hi,rfl⟩:=List.mem_iff_getElem.1 hx
  have:=h i hi
  simp only [List.getD_eq_getElem?_getD,List.getElem?_eq_getElem hi,Option.getD_some] at this
  simpa using this
theorem jw {p:Nat→Prop} {k:Nat} (h:∀i,i<k→p i) (hk:p k):∀i,i<k+1→p i:=fun i hi=>by
  rcases Nat.lt_or_ge i k with h1|h1
  · exact h i h1
  · have:i=k:=by omega
    subst this;exact hk
theorem eM {α:Type} {a b:List α} {d:α} (hl:a.length=b.length) (h:∀i,i<a.length→a.getD i d=b.getD i d):a=b:=by
  apply List.ext_getElem hl
  intro i h1 h2
  have:=h i h1
  simpa [List.getD_eq_getElem?_getD,List.getElem?_eq_getElem h1,List.getElem?_eq_getElem h2] using this
def ft (a b:ar):Bool:=decide (a.cls=b.cls∧a.width=b.width∧a.start=b.start∧a.next=b.next∧a.acc=b.acc)
theorem Hk (a:ar):ft a a=true:=by simp [ft]
section
variable {P:Program} {Γ:Env} {w:World} {ty:TypeId} {K:Value→World→Prop}
theorem I4 {src dst e:TypeId} {x:Operand} {a:aO} {n c:Nat} {xs:List Int} (hs:P.underlying src=some (.slice e)) (he:P.underlying e=some (.int .u8)) (hd:P.underlying dst=some .string) (hx:ev Γ x=some (.slice a n c)) (hr:bH (aw .u8) w (.slice a n c) xs)
    (k:K (.string (strOfNums xs)) w):az P Γ w (.convert src dst x) ty K:=by
  have hn:=hr.len
  subst hn
  have XP:(convert src dst (.slice a xs.length c)).run P w= .ok (.string (strOfNums xs)) w:=by
    obtain ⟨A,cap,hv,h1,h2,h3⟩:=hr
    cases hv
    cases a with
    | none=>
      have h0:xs=[]:=by
        cases xs with
        | nil=>rfl
        | cons y ys=>
          obtain ⟨ad,e1,_⟩:=h3 0 (.int .u8 y) (by simp [xd])
          cases e1
      subst h0
      have h5:=run_convert_bytes_nil (P:=P) w src e hs he 0 c dst hd
      exact h5
    | some ad=>
      have hl:(loadCells ad xs.length).run P w= .ok (xs.map (Value.int .u8)).toArray w:=by
        have:=run_loadCells_list (P:=P) w ad (xs.map (Value.int .u8)) (fun j v hj=>by
          obtain ⟨ad',e1,e2⟩:=h3 j v (by rw [xd];exact hj)
          cases e1
          exact e2)
        simpa using this
      rw [run_convert_bytes_string w src dst e _ xs.length c hs he hd,run_bytesToString w _ xs.length c xs hl,foldl_push_bytes]
      simp [strOfNums,ByteArray.empty,ByteArray.emptyWithCapacity]
      rfl
  exact az.of_run (fun ρ hρ=>by simp [ex,execOp,hρ x _ hx,XP]) k
end
theorem mO {α:Type} {T:Ty α} {P:Program} {Γ:Env} {w:World} {ty:TypeId} {K:Value→World→Prop} {t:TypeId} {x:Operand} {v:Value} {xs:List α} {desc:TypeDesc} {off n s b:Nat} {z:Option Value} {us:List Value} (j:Nat) (d:α) (hT:T.sz=s) (cX:Nat.ble (off+n) s=true) (hn:Nat.blt 0 n=true) (ht:P.underlying t=some desc) (hd:lV desc=true) (hs:cp P t=some (n,b,z))
    (hx:ev Γ x=some (bP v (j*s+off))) (hr:bH T w v xs) (hj:j<xs.length) (he:((T.enc (xs.getD j d)).drop off).take n=us) (k:K (.agg us.toArray) w):az P Γ w (.load t x) ty K:=by
  subst hT
  have hle:=Nat.le_of_ble_eq_true cX
  have NX:0<n:=of_eq_true (Eq.trans Nat.blt_eq.symm (eq_true hn))
  refine Gc us ht hd hs hx hr ?_ NX ?_ k
  · rw [←he,List.length_take,List.length_drop,T.len];omega
  · rw [←he,←T.Gx d xs j hj,←List.drop_drop,List.drop_take,List.take_take,Nat.min_eq_left oz]
theorem Jn {b:Bool} (h:¬(!b)=true):b=true:=by cases b<;>simp_all
theorem Ny {b:Bool} (h:(!b)=true):¬b=true:=by cases b<;>simp_all
def dd {α:Type} [DecidableEq α] (l:List α):List α:=l.foldl (fun acc x=>if x∈acc then acc else acc++[x]) []
section
variable {α:Type} [DecidableEq α]
theorem fl (l:List α) (x:α):dd (l++[x])=if x∈dd l then dd l else dd l++[x]:=by
  unfold dd;rw [List.foldl_append];rfl
theorem dV (l:List α) (x:α):x∈dd l↔x∈l:=by
  suffices h:∀r:List α,x∈dd r.reverse↔x∈r.reverse by simpa using h l.reverse
  intro r
  induction r with
  | nil=>simp [dd]
  | cons y r ih=>
    rw [List.reverse_cons,fl]
    split
    · rename_i hy
      rw [ih];simp only [List.mem_append,List.mem_singleton]
      constructor
      · exact .inl
      · rintro (h|rfl)
        · exact h
        · exact ih.1 hy
    · simp only [List.mem_append,List.mem_singleton,ih]
theorem Ra (l:List α):(dd l).Nodup:=by
  suffices h:∀r:List α,(dd r.reverse).Nodup by simpa using h l.reverse
  intro r
  induction r with
  | nil=>simp [dd]
  | cons y r ih=>
    rw [List.reverse_cons,fl]
    split
    · exact ih
    · rename_i hy
      exact List.nodup_append.2 ⟨ih,by simp,fun a ha b hb e=>by simp at hb;subst hb;subst e;exact hy ha⟩
theorem I0 (l:List α):(dd l).length≤l.length:=by
  suffices h:∀r:List α,(dd r.reverse).length≤r.reverse.length by simpa using h l.reverse
  intro r
  induction r with
  | nil=>simp [dd]
  | cons y r ih=>
    rw [List.reverse_cons,fl]
    split
    · simp at ih ⊢;omega
    · simp at ih ⊢;omega
theorem Ni (l m:List α):∃r,dd (l++m)=dd l++r:=by
  suffices h:∀m:List α,∃r,dd (l++m.reverse)=dd l++r by simpa using h m.reverse
  intro m
  induction m with
  | nil=>exact ⟨[],by simp⟩
  | cons y m ih=>
    obtain ⟨r,hr⟩:=ih
    rw [List.reverse_cons,←List.append_assoc,fl]
    split
    · exact ⟨r,hr⟩
    · exact ⟨r++[y],by rw [hr,List.append_assoc]⟩
def ix (x:α):List α→Nat
  | []=>0
  | y::l=>if x=y then 0 else ix x l+1
theorem pv {x:α} :∀ {l:List α},x∈l→ix x l<l.length
  | y::l,h=>by
    unfold ix
    split
    · simp
    · rename_i c0
      have:=pv (x:=x) (l:=l) (by simpa [c0] using h)
      simp;omega
theorem nW {x d:α} :∀ {l:List α},x∈l→l.getD (ix x l) d=x
  | y::l,h=>by
    unfold ix
    split
    · rename_i e;simp [e]
    · rename_i c0
      simpa using nW (x:=x) (d:=d) (l:=l) (by simpa [c0] using h)
theorem pw {x:α} (r:List α):∀ {l:List α},x∈l→ix x (l++r)=ix x l
  | y::l,h=>by
    simp only [List.cons_append,ix]
    split
    · rfl
    · rename_i c0
      rw [pw r (l:=l) (by simpa [c0] using h)]
theorem Qq {x y:α} {l:List α} (hx:x∈l) (hy:y∈l) (h:ix x l=ix y l):x=y:=by
  have e1:=nW (d:=x) hx
  have e2:=nW (d:=x) hy
  rw [h] at e1;exact e1.symm.trans e2
theorem YT (l m:List α) {x:α} (h:x∈dd l):ix x (dd (l++m))=ix x (dd l):=by
  obtain ⟨r,hr⟩:=Ni l m
  rw [hr,pw r h]
def uj (l:List α):List (α×Int):=(dd l).zipIdx.map fun p=>(p.1,(p.2:Int))
theorem sH (l:List α):(uj l).length=(dd l).length:=by simp [uj]
theorem FM:∀(l:List α) (i:Nat) (x:α),getM ((l.zipIdx i).map fun p=>(p.1,(p.2:Int))) x=if x∈l then some ((i+ix x l:Nat):Int) else none
  | [],i,x=>by simp [getM]
  | y::l,i,x=>by
    simp only [List.zipIdx_cons,List.map_cons,getM,FM l (i+1) x]
    by_cases h:x=y
    · subst h;simp [ix]
    · rw [if_neg h]
      by_cases hm:x∈l
      · rw [if_pos hm,if_pos (by simp [hm])]
        simp only [ix,if_neg h]
        congr 2;omega
      · rw [if_neg hm,if_neg (by simp [hm,h])]
theorem mY (l:List α) (x:α):getM (uj l) x=if x∈l then some ((ix x (dd l):Nat):Int) else none:=by
  have:=FM (dd l) 0 x
  simp only [dV,Nat.zero_add] at this
  exact this
theorem PZ {l:List α} {x:α} (h:x∈l):uj (l++[x])=uj l:=by
  simp only [uj,fl];rw [if_pos ((dV l x).2 h)]
theorem Fb {l:List α} {x:α} (h:x∉l):jN (uj l) x (((uj l).length:Nat):Int)=uj (l++[x]):=by
  have h2:x∉dd l:=fun hm=>h ((dV l x).1 hm)
  rw [EG (by rw [mY,if_neg h]),sH]
  simp [uj,fl,h2,List.zipIdx_append]
def bp (l:List α):List Int:=l.map fun x=>((ix x (dd l):Nat):Int)
end
theorem BN (v:BitVec 64):IntKind.u64.wrap ((v.toNat:Nat):Int)=((v.toNat:Nat):Int):=by
  have:=v.isLt
  simp [IntKind.wrap,IntKind.signed,IntKind.bits]
  omega
theorem pg (v:BitVec 64):BitVec.ofInt 64 ((v.toNat:Nat):Int)=v:=by simp
section
variable {P:Program} {Γ:Env} {w:World} {ty:TypeId} {K:Value→World→Prop} {xt yt:TypeId} {x y:Operand} {a b:BitVec 64}
theorem C0 (hx:ev Γ x=some (.int .u64 ((a.toNat:Nat):Int))) (hy:ev Γ y=some (.int .u64 ((b.toNat:Nat):Int))) (k:K (.int .u64 (((a|||b).toNat:Nat):Int)) w):az P Γ w (.binOp .or xt x y yt) ty K:=
  uF (((a|||b).toNat:Nat):Int) hx hy (congrArg some (by
    show IntKind.u64.wrap ((BitVec.ofInt 64 _|||BitVec.ofInt 64 _).toNat:Int)=_
    rw [pg,pg,BN])) k
theorem wU (hx:ev Γ x=some (.int .u64 ((a.toNat:Nat):Int))) (hy:ev Γ y=some (.int .u64 ((b.toNat:Nat):Int))) (k:K (.int .u64 (((a&&&b).toNat:Nat):Int)) w):az P Γ w (.binOp .and xt x y yt) ty K:=
  uF (((a&&&b).toNat:Nat):Int) hx hy (congrArg some (by
    show IntKind.u64.wrap ((BitVec.ofInt 64 _&&&BitVec.ofInt 64 _).toNat:Int)=_
    rw [pg,pg,BN])) k
theorem wrap_u64 (z:Int):IntKind.u64.wrap z=z%18446744073709551616:=by simp [IntKind.wrap,IntKind.signed,IntKind.bits]
theorem UP (hx:ev Γ x=some (.int .u64 ((a.toNat:Nat):Int))) (hy:ev Γ y=some (.int .u64 ((b.toNat:Nat):Int))) (k:K (.int .u64 (((a-b).toNat:Nat):Int)) w):az P Γ w (.binOp .sub xt x y yt) ty K:=
  mf (((a-b).toNat:Nat):Int) hx hy (congrArg some (by
    have h1:=a.isLt;have h2:=b.isLt
    rw [wrap_u64,BitVec.toNat_sub];omega)) k
theorem UR (hx:ev Γ x=some (.int .u64 ((a.toNat:Nat):Int))) (hy:ev Γ y=some (.int .u64 ((b.toNat:Nat):Int))) (k:K (.int .u64 (((a*b).toNat:Nat):Int)) w):az P Γ w (.binOp .mul xt x y yt) ty K:=
  mf (((a*b).toNat:Nat):Int) hx hy (congrArg some (by
    rw [wrap_u64,BitVec.toNat_mul,←Int.natCast_mul];omega)) k
theorem CZ {ky:IntKind} {n:Nat} (hx:ev Γ x=some (.int .u64 ((a.toNat:Nat):Int))) (hy:ev Γ y=some (.int ky ((n:Nat):Int))) (hn:n<64) (k:K (.int .u64 (((a<<<n).toNat:Nat):Int)) w):az P Γ w (.binOp .shl xt x y yt) ty K:=
  Wq hx hy oz (by
    have e:IntKind.u64.wrap (((a.toNat:Nat):Int)*2^(min ((n:Nat):Int).toNat IntKind.u64.bits))=(((a<<<n).toNat:Nat):Int):=by
      have e1:min ((n:Nat):Int).toNat IntKind.u64.bits=n:=by rw [Int.toNat_natCast];show min n 64=n;omega
      rw [e1,wrap_u64,BitVec.toNat_shiftLeft,Nat.shiftLeft_eq]
      have e2:(((a.toNat:Nat):Int)*2^n)=((a.toNat*2^n:Nat):Int):=by simp
      rw [e2];generalize a.toNat*2^n=z;omega
    rw [e];exact k)
theorem CY {ky:IntKind} {n:Nat} (hx:ev Γ x=some (.int .u64 ((a.toNat:Nat):Int))) (hy:ev Γ y=some (.int ky ((n:Nat):Int))) (hn:n<64) (k:K (.int .u64 (((a>>>n).toNat:Nat):Int)) w):az P Γ w (.binOp .shr xt x y yt) ty K:=
  Re hx hy oz (by
    have e:(((a.toNat:Nat):Int)).fdiv (2^(min ((n:Nat):Int).toNat IntKind.u64.bits))=(((a>>>n).toNat:Nat):Int):=by
      have e1:min ((n:Nat):Int).toNat IntKind.u64.bits=n:=by rw [Int.toNat_natCast];show min n 64=n;omega
      rw [e1,BitVec.toNat_ushiftRight,Nat.shiftRight_eq_div_pow]
      have e2:(2:Int)^n=((2^n:Nat):Int):=by simp
      rw [e2,Int.fdiv_eq_ediv_of_nonneg _ (Int.natCast_nonneg _)];simp
    rw [e];exact k)
theorem YU {kd ky:IntKind} {m n:Nat} (hx:ev Γ x=some (.int kd ((m:Nat):Int))) (hy:ev Γ y=some (.int ky ((n:Nat):Int))) (hn:n<kd.bits) (k:K (.int kd ((m/2^n:Nat):Int)) w):az P Γ w (.binOp .shr xt x y yt) ty K:=
  Re hx hy oz (by
    have e:((m:Nat):Int).fdiv (2^(min ((n:Nat):Int).toNat kd.bits))=((m/2^n:Nat):Int):=by
      have e1:min ((n:Nat):Int).toNat kd.bits=n:=by rw [Int.toNat_natCast];omega
      have e2:(2:Int)^n=((2^n:Nat):Int):=by simp
      rw [e1,e2,Int.fdiv_eq_ediv_of_nonneg _ (Int.natCast_nonneg _)];simp
    rw [e];exact k)
theorem C3 {kd:IntKind} {m:Nat} (hm:m<256) (hk:kd= .u8∨kd= .i64) (hx:ev Γ x=some (.int kd ((m:Nat):Int))) (hy:ev Γ y=some (.int kd 63)) (k:K (.int kd ((m%64:Nat):Int)) w):az P Γ w (.binOp .and xt x y yt) ty K:=by
  have h8:∀m:Fin 256,IntKind.u8.wrap ((BitVec.ofInt 8 ((m.val:Nat):Int)&&&BitVec.ofInt 8 63).toNat:Int)=((m.val%64:Nat):Int):=by decide+kernel
  have h64:∀m:Fin 256,IntKind.i64.wrap ((BitVec.ofInt 64 ((m.val:Nat):Int)&&&BitVec.ofInt 64 63).toNat:Int)=((m.val%64:Nat):Int):=by decide+kernel
  rcases hk with rfl|rfl
  · exact uF ((m%64:Nat):Int) hx hy (congrArg some (h8 ⟨m,hm⟩)) k
  · exact uF ((m%64:Nat):Int) hx hy (congrArg some (h64 ⟨m,hm⟩)) k
theorem US (hx:ev Γ x=some (.int .u64 ((a.toNat:Nat):Int))) (k:K (.int .u64 (((~~~a).toNat:Nat):Int)) w):az P Γ w (.unOp .xor xt x) ty K:=
  az.of_run (fun ρ hρ=>by
    have e:IntKind.u64.wrap ((BitVec.ofInt 64 18446744073709551615^^^BitVec.ofInt 64 ((a.toNat:Nat):Int)).toNat:Int)=(((~~~a).toNat:Nat):Int):=by
      rw [pg,BN]
      have h1:BitVec.ofInt 64 18446744073709551615=BitVec.allOnes 64:=by decide
      rw [h1,BitVec.allOnes_xor]
    have e2:(Op.unary .xor (.int .u64 ((a.toNat:Nat):Int))).run P w= .ok (.int .u64 (IntKind.u64.wrap ((BitVec.ofInt 64 18446744073709551615^^^BitVec.ofInt 64 ((a.toNat:Nat):Int)).toNat:Int))) w:=rfl
    rw [e] at e2
    simp [ex,execOp,hρ x _ hx,e2]) k
theorem UQ (hx:ev Γ x=some (.int .u64 ((a.toNat:Nat):Int))) (k:K (.int .u64 (((-a).toNat:Nat):Int)) w):az P Γ w (.unOp .neg xt x) ty K:=
  az.of_run (fun ρ hρ=>by
    have e:IntKind.u64.wrap (0-((a.toNat:Nat):Int))=(((-a).toNat:Nat):Int):=by
      have:=a.isLt
      rw [wrap_u64,BitVec.toNat_neg];omega
    have e2:(Op.unary .neg (.int .u64 ((a.toNat:Nat):Int))).run P w= .ok (.int .u64 (IntKind.u64.wrap (0-((a.toNat:Nat):Int)))) w:=rfl
    rw [e] at e2
    simp [ex,execOp,hρ x _ hx,e2]) k
end
def Ad (s:List (BitVec 64)) (b:Nat):Bool:=(s.getD (b/64) 0#64).getLsbD (b%64)
theorem OR {s t:List (BitVec 64)} (hs:s.length=4) (ht:t.length=4) (h:∀b,b<256→Ad s b=Ad t b):s=t:=by
  apply List.ext_getElem oz
  intro i h1 h2
  apply BitVec.eq_of_getLsbD_eq
  intro j hj
  have h3:=h (64*i+j) oz
  have e1:(64*i+j)/64=i:=by omega
  have e2:(64*i+j)%64=j:=by omega
  unfold Ad at h3
  rw [e1,e2] at h3
  simpa [List.getD_eq_getElem?_getD,List.getElem?_eq_getElem h1,List.getElem?_eq_getElem h2] using h3
def Vk (s:List (BitVec 64)) (b:Nat):List (BitVec 64):=s.set (b/64) ((s.getD (b/64) 0#64)|||(1#64<<<(b%64)))
theorem Km {n i:Nat} (hn:n<64):(1#64<<<n).getLsbD i=decide (i=n):=by
  rw [BitVec.getLsbD_shiftLeft]
  by_cases h:i=n
  · subst h;simp [hn]
  · by_cases h2:i<n
    · simp [h,h2]
    · have e:i-n≠0:=by omega
      simp [h,h2,BitVec.getLsbD_one,e]
theorem has_add {s:List (BitVec 64)} {b:Nat} (hs:s.length=4) (hb:b<256) (x:Nat):Ad (Vk s b) x=(decide (x=b)||Ad s x):=by
  unfold Ad Vk
  have hl:b/64<s.length:=by omega
  have hg:(s.set (b/64) ((s.getD (b/64) 0#64)|||(1#64<<<(b%64)))).getD (x/64) 0#64=if b/64=x/64 then (s.getD (b/64) 0#64)|||(1#64<<<(b%64)) else s.getD (x/64) 0#64:=by
    simp only [List.getD_eq_getElem?_getD,List.getElem?_set]
    split
    · rfl
    · rfl
  rw [hg]
  by_cases e:b/64=x/64
  · rw [if_pos e,BitVec.getLsbD_or,Km (Nat.mod_lt _ oz),e]
    have:decide (x%64=b%64)=decide (x=b):=by
      rw [decide_eq_decide];constructor
      · intro h;omega
      · intro h;rw [h]
    rw [this,Bool.or_comm]
  · rw [if_neg e]
    have:decide (x=b)=false:=decide_eq_false (fun h=>e (by rw [h]))
    rw [this];rfl
theorem KB {w:BitVec 64} {i:Nat} (hi:i<64):(w&&& -w).getLsbD i=(w.getLsbD i&&decide (∀j,j<i→w.getLsbD j=false))∧(w&&&(w-1#64)).getLsbD i=(w.getLsbD i&&decide (∃j,j<i∧w.getLsbD j=true)):=by
  have aci:(-w).getLsbD i=(w.getLsbD i^^decide (∃j,j<i∧w.getLsbD j=true)):=by
    rw [BitVec.getLsbD_neg];simp [hi]
  have MP:w-1#64= ~~~(-w):=by
    rw [BitVec.not_neg]
  constructor
  · rw [BitVec.getLsbD_and,aci]
    by_cases h:∃j,j<i∧w.getLsbD j=true
    · have h2:¬ ∀j,j<i→w.getLsbD j=false:=fun h9=>by obtain ⟨j,hj,e⟩:=h;rw [h9 j hj] at e;cases e
      rw [decide_eq_true h,decide_eq_false h2];cases w.getLsbD i<;>rfl
    · have h2:∀j,j<i→w.getLsbD j=false:=fun j hj=>Bool.eq_false_iff.2 fun e=>h ⟨j,hj,e⟩
      rw [decide_eq_false h,decide_eq_true h2];cases w.getLsbD i<;>rfl
  · rw [BitVec.getLsbD_and,MP,BitVec.getLsbD_not,aci]
    simp only [hi,decide_true,Bool.true_and]
    cases w.getLsbD i<;>cases decide (∃j,j<i∧w.getLsbD j=true)<;>rfl
theorem Qf {w:BitVec 64} (h:w≠0#64):∃k,k<64∧w.getLsbD k=true∧∀j,j<k→w.getLsbD j=false:=by
  have h1:∃i,i<64∧w.getLsbD i=true:=Classical.byContradiction fun hn=>h (BitVec.eq_of_getLsbD_eq fun i hi=>by
    have:w.getLsbD i=false:=Bool.eq_false_iff.2 fun e=>hn ⟨i,hi,e⟩
    rw [this];simp)
  obtain ⟨i,hi,e⟩:=h1
  have key:∀n,n<64→w.getLsbD n=true→∃k,k<64∧w.getLsbD k=true∧∀j,j<k→w.getLsbD j=false:=by
    intro n
    induction n using Nat.strongRecOn with
    | _ n ih=>
      intro hn he
      by_cases hx:∃j,j<n∧w.getLsbD j=true
      · obtain ⟨j,hj,e2⟩:=hx;exact ih j hj oz e2
      · exact ⟨n,hn,he,fun j hj=>Bool.eq_false_iff.2 fun e2=>hx ⟨j,hj,e2⟩⟩
  exact key i hi e
theorem TN {w:BitVec 64} {k:Nat} (hk:k<64) (h1:w.getLsbD k=true) (h2:∀j,j<k→w.getLsbD j=false):w&&& -w=1#64<<<k:=by
  apply BitVec.eq_of_getLsbD_eq
  intro i hi
  rw [(KB hi).1,Km hk]
  by_cases e:i=k
  · subst e;rw [h1,decide_eq_true h2];simp
  · rw [decide_eq_false e]
    by_cases e2:i<k
    · rw [h2 i e2];rfl
    · have:¬ ∀j,j<i→w.getLsbD j=false:=fun h9=>by rw [h9 k oz] at h1;cases h1
      rw [decide_eq_false this,Bool.and_false]
def mv (w:BitVec 64):List Nat:=(List.range 64).filter fun i=>w.getLsbD i
theorem CR {p:Nat→Bool} {n k:Nat} (hk:k<n) (h1:p k=true) (h2:∀j,j<k→p j=false):(List.range n).filter p=k::(List.range n).filter (fun i=>p i&&decide (k<i)):=by
  have e:List.range n=List.range k++k::(List.range (n-k-1)).map (fun i=>i+(k+1)):=by
    have e1:n=k+(n-k):=by omega
    rw [e1,List.range_add]
    congr 1
    have e2:k+(n-k)-k=(n-k-1)+1:=by omega
    rw [show n-k=(n-k-1)+1 by omega,List.range_succ_eq_map,List.map_cons]
    simp only [Nat.add_zero,List.cons.injEq,true_and,List.map_map]
    rw [show k+(n-k-1+1)-k-1=n-k-1 by omega]
    apply List.map_congr_left
    intro x _
    simp only [Function.comp_apply];omega
  rw [e,List.filter_append,List.filter_append]
  have a1:(List.range k).filter p=[]:=by rw [List.filter_eq_nil_iff];intro x hx;rw [h2 x (List.mem_range.1 hx)];decide
  have a2:(List.range k).filter (fun i=>p i&&decide (k<i))=[]:=by rw [List.filter_eq_nil_iff];intro x hx;rw [h2 x (List.mem_range.1 hx)];simp
  rw [a1,a2,List.filter_cons,if_pos h1,List.filter_cons,if_neg (by simp)]
  simp only [List.nil_append,List.cons.injEq,true_and]
  apply List.filter_congr
  intro x hx
  obtain ⟨y,_,rfl⟩:=List.mem_map.1 hx
  have:decide (k<y+(k+1))=true:=decide_eq_true oz
  rw [this,Bool.and_true]
theorem Js {w:BitVec 64} {k:Nat} (hk:k<64) (h1:w.getLsbD k=true) (h2:∀j,j<k→w.getLsbD j=false):mv w=k::mv (w&&&(w-1#64)):=by
  unfold mv
  rw [CR hk h1 h2]
  congr 1
  apply List.filter_congr
  intro i hi
  rw [(KB (List.mem_range.1 hi)).2]
  congr 1
  rw [decide_eq_decide]
  constructor
  · intro h;exact ⟨k,h,h1⟩
  · rintro ⟨j,hj,e⟩
    refine Classical.byContradiction fun hn=>?_
    rw [h2 j oz] at e;cases e
theorem Jr:mv 0#64=[]:=by
  unfold mv;rw [List.filter_eq_nil_iff];intro x _;simp
theorem Xr {w:BitVec 64} (h:w≠0#64):(w&&&(w-1#64)).toNat<w.toNat:=by
  have h0:w.toNat≠0:=fun e=>h (BitVec.eq_of_toNat_eq (by simpa using e))
  have h1:(w-1#64).toNat=w.toNat-1:=by
    have:=w.isLt
    rw [BitVec.toNat_sub];simp;omega
  rw [BitVec.toNat_and,h1]
  have:= @Nat.and_le_right w.toNat (w.toNat-1)
  omega
def Dg (s:List (BitVec 64)):List Nat:=(List.range 256).filter (Ad s)
theorem De {s:List (BitVec 64)} (hs:s.length=4):Dg s=(List.range 4).flatMap fun i=>(mv (s.getD i 0#64)).map fun b=>i*64+b:=by
  have e:List.range 256=(List.range 4).flatMap fun i=>(List.range 64).map fun b=>i*64+b:=by decide+kernel
  unfold Dg
  rw [e,List.filter_flatMap]
  rw [List.flatMap_def,List.flatMap_def];congr 1
  apply List.map_congr_left
  intro i hi
  have hi4:i<4:=List.mem_range.1 hi
  rw [List.filter_map]
  congr 1
  unfold mv
  apply List.filter_congr
  intro b hb
  have amW:b<64:=List.mem_range.1 hb
  unfold Ad
  simp only [Function.comp_apply]
  rw [show (i*64+b)/64=i by omega,show (i*64+b)%64=b by omega]
structure Bs where
  w0:BitVec 64
  w1:BitVec 64
  w2:BitVec 64
  w3:BitVec 64
theorem Bs.F6 {s t:Bs} (h0:s.w0=t.w0) (h1:s.w1=t.w1) (h2:s.w2=t.w2) (h3:s.w3=t.w3):s=t:=by
  cases s;cases t;simp_all
instance:DecidableEq Bs:=fun s t=>decidable_of_iff (s.w0=t.w0∧s.w1=t.w1∧s.w2=t.w2∧s.w3=t.w3) ⟨fun h=>Bs.F6 h.1 h.2.1 h.2.2.1 h.2.2.2,fun h=>by subst h;exact ⟨rfl,rfl,rfl,rfl⟩⟩
def Bs.l (s:Bs):List (BitVec 64):=[s.w0,s.w1,s.w2,s.w3]
theorem Bs.abL {s t:Bs} (h:s.l=t.l):s=t:=by
  simp only [Bs.l,List.cons.injEq,and_true] at h;exact Bs.F6 h.1 h.2.1 h.2.2.1 h.2.2.2
def Bs.get (s:Bs) (i:Nat):BitVec 64:=match i with|0=>s.w0|1=>s.w1|2=>s.w2|_=>s.w3
def Bs.put (s:Bs) (i:Nat) (v:BitVec 64):Bs:=match i with|0=>⟨v,s.w1,s.w2,s.w3⟩|1=>⟨s.w0,v,s.w2,s.w3⟩|2=>⟨s.w0,s.w1,v,s.w3⟩|_=>⟨s.w0,s.w1,s.w2,v⟩
def Bs.zero:Bs:=⟨0#64,0#64,0#64,0#64⟩
theorem four {j:Nat} (h:j<4):j=0∨j=1∨j=2∨j=3:=by omega
theorem Bs.Wl (s:Bs) {j:Nat} (h:j<4):s.l.getD j 0#64=s.get j:=by
  rcases four h with rfl|rfl|rfl|rfl<;>rfl
theorem Bs.abn (s:Bs) {j:Nat} (h:j<4) (v:BitVec 64):(s.put j v).l=s.l.set j v:=by
  rcases four h with rfl|rfl|rfl|rfl<;>rfl
theorem Bs.Ur (s:Bs) {i j:Nat} (hi:i<4) (hj:j<4) (v:BitVec 64):(s.put i v).get j=if j=i then v else s.get j:=by
  rcases four hi with rfl|rfl|rfl|rfl<;>rcases four hj with rfl|rfl|rfl|rfl<;>rfl
theorem Bs.ext_get {s t:Bs} (h:∀j,j<4→s.get j=t.get j):s=t:=Bs.F6 (h 0 oz) (h 1 oz) (h 2 oz) (h 3 oz)
theorem Wv (s:Bs) {j:Nat} (h:j<4):(#[.int .u64 ((s.w0.toNat:Nat):Int),.int .u64 ((s.w1.toNat:Nat):Int),.int .u64 ((s.w2.toNat:Nat):Int),.int .u64 ((s.w3.toNat:Nat):Int)]:Array Value)[j]?=some (.int .u64 (((s.get j).toNat:Nat):Int)):=by
  rcases four h with rfl|rfl|rfl|rfl<;>rfl
theorem Zu (s:Bs) {j:Nat} (h:j<4) (v:BitVec 64):(#[.int .u64 ((s.w0.toNat:Nat):Int),.int .u64 ((s.w1.toNat:Nat):Int),.int .u64 ((s.w2.toNat:Nat):Int),.int .u64 ((s.w3.toNat:Nat):Int)]:Array Value).setIfInBounds j (.int .u64 ((v.toNat:Nat):Int))= #[.int .u64 (((s.put j v).w0.toNat:Nat):Int),.int .u64 (((s.put j v).w1.toNat:Nat):Int),.int .u64 (((s.put j v).w2.toNat:Nat):Int),.int .u64 (((s.put j v).w3.toNat:Nat):Int)]:=by
  rcases four h with rfl|rfl|rfl|rfl<;>rfl
section
variable {P:Program} {Γ:Env} {w:World} {ty:TypeId} {K:Value→World→Prop}
theorem fX {t e:TypeId} {x ix:Operand} {g b:Nat} {z:Option Value} {kd:IntKind} {j:Nat} (ht:P.underlying t=some (.array 4 e)) (hs:cp P e=some (1,b,z)) (hx:ev Γ x=some (.pointer (some ⟨g,0,none⟩))) (hi:ev Γ ix=some (.int kd ((j:Nat):Int)))
    (hj:j<4) (k:K (.pointer (some ⟨g,j,none⟩)) w):az P Γ w (.indexAddr t x ix) ty K:=
  tf ht hs hx hi oz oz (by rw [mw,Int.toNat_natCast,Nat.mul_one,Nat.zero_add];exact k)
theorem jr {t e:TypeId} {x:Operand} {g:Nat} {d:TypeDesc} {j:Nat} (s:Bs) (ht:P.underlying t=some d) (hd:lV d=false) (hx:ev Γ x=some (.pointer (some ⟨g,j,none⟩)))
    (hb:w.heap[g]?=some (.cells #[.int .u64 ((s.w0.toNat:Nat):Int),.int .u64 ((s.w1.toNat:Nat):Int),.int .u64 ((s.w2.toNat:Nat):Int),.int .u64 ((s.w3.toNat:Nat):Int)] e (0,0))) (hj:j<4) (k:K (.int .u64 (((s.get j).toNat:Nat):Int)) w):az P Γ w (.load t x) ty K:=
  La ht hd hx hb (Wv s hj) k
theorem nB {t e:TypeId} {x y:Operand} {g b:Nat} {z:Option Value} {j:Nat} (s:Bs) (v:BitVec 64) (hs:cp P t=some (1,b,z)) (hx:ev Γ x=some (.pointer (some ⟨g,j,none⟩))) (hy:ev Γ y=some (.int .u64 ((v.toNat:Nat):Int)))
    (hb:w.heap[g]?=some (.cells #[.int .u64 ((s.w0.toNat:Nat):Int),.int .u64 ((s.w1.toNat:Nat):Int),.int .u64 ((s.w2.toNat:Nat):Int),.int .u64 ((s.w3.toNat:Nat):Int)] e (0,0))) (hj:j<4)
    (k:∀w',aE w [bm g #[.int .u64 ((s.w0.toNat:Nat):Int),.int .u64 ((s.w1.toNat:Nat):Int),.int .u64 ((s.w2.toNat:Nat):Int),.int .u64 ((s.w3.toNat:Nat):Int)] e] w' [bm g #[.int .u64 (((s.put j v).w0.toNat:Nat):Int),.int .u64 (((s.put j v).w1.toNat:Nat):Int),.int .u64 (((s.put j v).w2.toNat:Nat):Int),.int .u64 (((s.put j v).w3.toNat:Nat):Int)] e]→K undef w'):az P Γ w (.store t x y) ty K:=
  Ga hs hx hy rfl hb (by rcases four hj with rfl|rfl|rfl|rfl<;>rfl) (fun w' hu=>k w' (by rw [Zu s hj v] at hu;exact hu))
theorem Rr {t e:TypeId} {x ix:Operand} {b:Nat} {d:TypeDesc} {z:Option Value} {kd:IntKind} {j:Nat} (s:Bs) (ht:P.underlying t=some (.array 4 e)) (he:P.underlying e=some d) (hd:lV d=false) (hs:cp P e=some (1,b,z)) (hx:ev Γ x=some (.agg #[.int .u64 ((s.w0.toNat:Nat):Int),.int .u64 ((s.w1.toNat:Nat):Int),.int .u64 ((s.w2.toNat:Nat):Int),.int .u64 ((s.w3.toNat:Nat):Int)])) (hi:ev Γ ix=some (.int kd ((j:Nat):Int)))
    (hj:j<4) (k:K (.int .u64 (((s.get j).toNat:Nat):Int)) w):az P Γ w (.index t x ix) ty K:=
  Rs ht he hd hs hx hi oz oz (by rw [Int.toNat_natCast];exact Wv s hj) k
theorem LZ {t e:TypeId} {b:Nat} {z:Option Value} (s u:Bs) (ht:P.underlying t=some (.array 4 e)) (he:P.underlying e=some (.int .u64)) (hs:cp P e=some (1,b,z)):
    (Op.equalIn 10000 t (.agg #[.int .u64 ((s.w0.toNat:Nat):Int),.int .u64 ((s.w1.toNat:Nat):Int),.int .u64 ((s.w2.toNat:Nat):Int),.int .u64 ((s.w3.toNat:Nat):Int)]) (.agg #[.int .u64 ((u.w0.toNat:Nat):Int),.int .u64 ((u.w1.toNat:Nat):Int),.int .u64 ((u.w2.toNat:Nat):Int),.int .u64 ((u.w3.toNat:Nat):Int)])).run P w= .ok (decide (s=u)) w:=by
  obtain ⟨i,hi,h1,_,_⟩:=kZ hs
  rw [run_equalIn_array w 9999 _ _ ht hi]
  have hc:P.cellsOf e=1:=by simp [Program.cellsOf,hi,h1]
  have hr:List.range 4=[0,1,2,3]:=by decide
  have key:∀(x y:BitVec 64),((((x.toNat:Nat):Int))==(((y.toNat:Nat):Int)))=decide (x=y):=fun x y=>by
    rw [Bool.eq_iff_iff,beq_iff_eq,decide_eq_true_eq]
    exact ⟨fun h=>BitVec.eq_of_toNat_eq oz,fun h=>by rw [h]⟩
  have hd:decide (s=u)=(decide (s.w0=u.w0)&&(decide (s.w1=u.w1)&&(decide (s.w2=u.w2)&&decide (s.w3=u.w3)))):=by
    rw [Bool.eq_iff_iff];simp only [decide_eq_true_eq,Bool.and_eq_true]
    exact ⟨fun h=>by subst h;exact ⟨rfl,rfl,rfl,rfl⟩,fun h=>Bs.F6 h.1 h.2.1 h.2.2.1 h.2.2.2⟩
  rw [hr,hc,hd]
  have pt:∀(X:Array Value) (o:Nat) (v:Value),X[o]?=some v→(part e X o).run P w= .ok v w:=fun X o v h=>by simp [part,isAgg,run_underlying he,h]
  have p0:∀a b c d:Value,(part e #[a,b,c,d] 0).run P w= .ok a w:=fun a b c d=>pt _ 0 _ rfl
  have p1:∀a b c d:Value,(part e #[a,b,c,d] 1).run P w= .ok b w:=fun a b c d=>pt _ 1 _ rfl
  have p2:∀a b c d:Value,(part e #[a,b,c,d] 2).run P w= .ok c w:=fun a b c d=>pt _ 2 _ rfl
  have p3:∀a b c d:Value,(part e #[a,b,c,d] 3).run P w= .ok d w:=fun a b c d=>pt _ 3 _ rfl
  have q:∀(x y:BitVec 64),(Op.equalIn 9999 e (.int .u64 ((x.toNat:Nat):Int)) (.int .u64 ((y.toNat:Nat):Int))).run P w= .ok (decide (x=y)) w:=fun x y=>by
    rw [run_equalIn_int w 9998 e .u64 .u64 _ _ he,key]
  simp only [Op.eqItems,Sem.run_bind,Nat.mul_one,p0,Result.andThen_ok,q]
  cases decide (s.w0=u.w0)
  · simp
  simp only [Bool.not_true,Bool.false_eq_true,if_false,Sem.run_bind,p1,Result.andThen_ok,q]
  cases decide (s.w1=u.w1)
  · simp
  simp only [Bool.not_true,Bool.false_eq_true,if_false,Sem.run_bind,p2,Result.andThen_ok,q]
  cases decide (s.w2=u.w2)
  · simp
  simp only [Bool.not_true,Bool.false_eq_true,if_false,Sem.run_bind,p3,Result.andThen_ok,q]
  cases decide (s.w3=u.w3)
  · simp
  · simp
theorem C2 {xt yt e:TypeId} {x y:Operand} {b:Nat} {z:Option Value} (s u:Bs) (hx:ev Γ x=some (.agg #[.int .u64 ((s.w0.toNat:Nat):Int),.int .u64 ((s.w1.toNat:Nat):Int),.int .u64 ((s.w2.toNat:Nat):Int),.int .u64 ((s.w3.toNat:Nat):Int)])) (hy:ev Γ y=some (.agg #[.int .u64 ((u.w0.toNat:Nat):Int),.int .u64 ((u.w1.toNat:Nat):Int),.int .u64 ((u.w2.toNat:Nat):Int),.int .u64 ((u.w3.toNat:Nat):Int)]))
    (ht:P.underlying xt=some (.array 4 e)) (he:P.underlying e=some (.int .u64)) (hs:cp P e=some (1,b,z)) (hm:P.eqGuardType P.depth xt=false) (k:K (.bool (decide (s≠u))) w):az P Γ w (.binOp .neq xt x y yt) ty K:=
  az.of_run (fun ρ hρ=>by
    simp only [ex,execOp,hρ x _ hx,hρ y _ hy,Sem.run_bind,run_eqGuard_agg w _ _ _ _ _ _ hm,run_neq_struct,Result.andThen_ok]
    rw [LZ s u ht he hs];simp) k
theorem Y1 {t e:TypeId} {ix:Operand} {gl n b len c:Nat} {z:Option Value} {kd:IntKind} {j:Nat} (ht:P.underlying t=some (.array len e)) (hs:cp P e=some (1,b,z)) (hi:ev Γ ix=some (.int kd ((j:Nat):Int))) (hj:j<len)
    (k:K (bP (.slice (some ⟨gl,0,none⟩) n c) j) w):az P Γ w (.indexAddr t (.global gl) ix) ty K:=
  tf (ad:=⟨gl,0,none⟩) ht hs rfl hi oz oz (by
    rw [Int.toNat_natCast,Nat.mul_one];exact k)
theorem I1 {kd ky:IntKind} {xt yt:TypeId} {x y:Operand} {m:Nat} (h6:6<kd.bits) (hx:ev Γ x=some (.int kd ((m:Nat):Int))) (hy:ev Γ y=some (.int ky 6)) (k:K (.int kd ((m/64:Nat):Int)) w):az P Γ w (.binOp .shr xt x y yt) ty K:=
  YU (n:=6) hx hy h6 k
theorem n9 {xt yt:TypeId} {x y:Operand} {m:Nat} (hm:m<256) (hx:ev Γ x=some (.int .u8 ((m:Nat):Int))) (hy:ev Γ y=some (.int .u8 32)) (k:K (.int .u8 ((m|||32:Nat):Int)) w):az P Γ w (.binOp .or xt x y yt) ty K:=by
  have h8:∀m:Fin 256,IntKind.u8.wrap ((BitVec.ofInt 8 ((m.val:Nat):Int)|||BitVec.ofInt 8 32).toNat:Int)=((m.val|||32:Nat):Int):=by decide+kernel
  exact uF ((m|||32:Nat):Int) hx hy (congrArg some (h8 ⟨m,hm⟩)) k
theorem I5 {xt yt:TypeId} {x y:Operand} {a b:BitVec 64} (hx:ev Γ x=some (.int .u64 ((a.toNat:Nat):Int))) (hy:ev Γ y=some (.int .u64 ((b.toNat:Nat):Int))) (k:K (.bool (decide (a=b))) w):az P Γ w (.binOp .eql xt x y yt) ty K:=by
  have e:decide (((a.toNat:Nat):Int)=((b.toNat:Nat):Int))=decide (a=b):=by
    rw [decide_eq_decide];exact ⟨fun h=>BitVec.eq_of_toNat_eq oz,fun h=>by rw [h]⟩
  exact Ru (decide (((a.toNat:Nat):Int)=((b.toNat:Nat):Int))) hx hy rfl (by rw [e];exact k)
theorem Y3 {xt yt:TypeId} {x y:Operand} {a b:BitVec 64} (hx:ev Γ x=some (.int .u64 ((a.toNat:Nat):Int))) (hy:ev Γ y=some (.int .u64 ((b.toNat:Nat):Int))) (k:K (.bool (decide (a≠b))) w):az P Γ w (.binOp .neq xt x y yt) ty K:=by
  have e:decide (((a.toNat:Nat):Int)≠((b.toNat:Nat):Int))=decide (a≠b):=by
    rw [decide_eq_decide];exact ⟨fun h h2=>h (by rw [h2]),fun h h2=>h (BitVec.eq_of_toNat_eq oz)⟩
  exact Ru (decide (((a.toNat:Nat):Int)≠((b.toNat:Nat):Int))) hx hy rfl (by rw [e];exact k)
end
def sw (a b:Bs):Bs:=⟨a.w0|||b.w0,a.w1|||b.w1,a.w2|||b.w2,a.w3|||b.w3⟩
def gF (a:Bs):Bs:=⟨~~~a.w0,~~~a.w1,~~~a.w2,~~~a.w3⟩
theorem Kl (a b:Bs) {j:Nat} (h:j<4):(sw a b).get j=a.get j|||b.get j:=by rcases four h with rfl|rfl|rfl|rfl<;>rfl
theorem E9 (a:Bs) {j:Nat} (h:j<4):(gF a).get j= ~~~(a.get j):=by rcases four h with rfl|rfl|rfl|rfl<;>rfl
theorem Bz {F:BitVec 64→BitVec 64→BitVec 64} {a b r:Bs} {k:Nat} (hk:k<4) (hr:∀j,j<4→r.get j=if j<k then F (a.get j) (b.get j) else a.get j):
    ∀j,j<4→(r.put k (F (r.get k) (b.get k))).get j=if j<k+1 then F (a.get j) (b.get j) else a.get j:=by
  intro j hj
  rw [Bs.Ur _ hk hj]
  by_cases e:j=k
  · subst e;rw [if_pos rfl,if_pos oz,hr j hj,if_neg oz]
  · rw [if_neg e,hr j hj]
    by_cases e2:j<k
    · rw [if_pos e2,if_pos oz]
    · rw [if_neg e2,if_neg oz]
theorem BA {F:BitVec 64→BitVec 64→BitVec 64} {a b r q:Bs} {k:Nat} (hk:4≤k) (hr:∀j,j<4→r.get j=if j<k then F (a.get j) (b.get j) else a.get j) (hq:∀j,j<4→q.get j=F (a.get j) (b.get j)):r=q:=
  Bs.ext_get fun j hj=>by rw [hr j hj,if_pos oz,hq j hj]
def kB (s:Bs) (c:Nat):Bs:=s.put (c/64) (s.get (c/64)|||(1#64<<<(c%64)))
def gU (l:List Nat):Bs:=l.foldl kB Bs.zero
def Bs.has (s:Bs) (b:Nat):Bool:=(s.get (b/64)).getLsbD (b%64)
theorem FH (s:Bs) {b:Nat} (hb:b<256):s.has b=Ad s.l b:=by unfold Bs.has Ad;rw [Bs.Wl s oz]
theorem Bs.te {s t:Bs} (h:∀b,b<256→s.has b=t.has b):s=t:=
  Bs.abL (OR rfl rfl fun b hb=>by rw [←FH s hb,←FH t hb];exact h b hb)
theorem eo (b:Nat):Bs.zero.has b=false:=by
  unfold Bs.has Bs.zero Bs.get;split<;>simp
theorem FI {s:Bs} {c:Nat} (hc:c<256) {b:Nat} (hb:b<256):(kB s c).has b=(decide (b=c)||s.has b):=by
  rw [FH _ hb,FH _ hb]
  have e:(kB s c).l=Vk s.l c:=by unfold kB Vk;rw [Bs.abn _ oz,Bs.Wl _ oz]
  rw [e];exact has_add rfl hc b
theorem KY (a b:Bs) {x:Nat} (hx:x<256):(sw a b).has x=(a.has x||b.has x):=by
  unfold Bs.has;rw [Kl _ _ oz,BitVec.getLsbD_or]
theorem QL (a:Bs) {x:Nat} (hx:x<256):(gF a).has x= !a.has x:=by
  unfold Bs.has;rw [E9 _ oz,BitVec.getLsbD_not];simp [Nat.mod_lt]
theorem rC:∀(l:List Nat) (s:Bs),(∀c,c∈l→c<256)→∀x,x<256→(l.foldl kB s).has x=(decide (x∈l)||s.has x)
  | [],s,_,x,hx=>by simp
  | c::l,s,hl,x,hx=>by
    rw [List.foldl_cons,rC l _ (fun d hd=>hl d (List.mem_cons_of_mem _ hd)) x hx,FI (hl c List.mem_cons_self) hx]
    by_cases e:x=c
    · simp [e]
    · simp [e]
theorem nZ {l:List Nat} (hl:∀c,c∈l→c<256) {x:Nat} (hx:x<256):(gU l).has x=decide (x∈l):=by
  unfold gU;rw [rC l _ hl x hx,eo,Bool.or_false]
theorem Tm (v:BitVec 64) (n:Nat):((v>>>n)&&&1#64=1#64)↔v.getLsbD n=true:=by
  constructor
  · intro h
    have h1:((v>>>n)&&&1#64).getLsbD 0=true:=by rw [h];decide
    rw [BitVec.getLsbD_and,BitVec.getLsbD_ushiftRight] at h1
    simpa using h1
  · intro h
    apply BitVec.eq_of_getLsbD_eq
    intro i hi
    rw [BitVec.getLsbD_and,BitVec.getLsbD_ushiftRight,BitVec.getLsbD_one]
    by_cases e:i=0
    · subst e;simp [h]
    · simp [e]
theorem KX (s:Bs) (b:Nat):decide ((s.get (b/64)>>>(b%64))&&&1#64=1#64)=s.has b:=by
  rw [Bool.eq_iff_iff,decide_eq_true_eq,Tm];rfl
theorem Hb {l:List Nat} {k:Nat} (hk:k<l.length) (s:Bs):(l.take (k+1)).foldl kB s=kB ((l.take k).foldl kB s) (l.getD k 0):=by
  rw [List.getD_eq_getElem?_getD,List.getElem?_eq_getElem hk,List.take_add_one,List.getElem?_eq_getElem hk,List.foldl_append];rfl
def rG:List Nat:=[0,1,56,2,57,49,28,3,61,58,42,50,38,29,17,4,62,47,59,36,45,43,51,22,53,39,33,30,24,18,12,5,63,55,48,27,60,41,37,16,46,35,44,21,52,32,23,11,54,26,40,15,34,20,31,10,25,14,19,9,13,8,7,6]
def ctz (x:BitVec 64):Nat:=if x=0#64 then 64 else rG.getD (((x&&& -x)*285870213051353865#64)>>>58).toNat 0
theorem wT:rG.length=64:=rfl
theorem J2 (x:BitVec 64):(x>>>58).toNat<64:=by
  have:=x.isLt;rw [BitVec.toNat_ushiftRight,Nat.shiftRight_eq_div_pow];omega
theorem YS:∀k:Fin 64,rG.getD (((1#64<<<k.val)*285870213051353865#64)>>>58).toNat 0=k.val:=by decide+kernel
theorem Lc {x:BitVec 64} {k:Nat} (hk:k<64) (h1:x.getLsbD k=true) (h2:∀j,j<k→x.getLsbD j=false):ctz x=k:=by
  have hx:x≠0#64:=fun e=>by subst e;simp at h1
  unfold ctz
  rw [if_neg hx,TN hk h1 h2]
  exact YS ⟨k,hk⟩
theorem Y4 {x:BitVec 64} (h:x≠0#64):ctz x<64:=by
  obtain ⟨k,hk,h1,h2⟩:=Qf h;rw [Lc hk h1 h2];exact hk
theorem Q8 (i:Nat):rG.getD i 0<64:=by
  by_cases h:i<64
  · exact (by decide+kernel:∀i:Fin 64,rG.getD i.val 0<64) ⟨i,h⟩
  · have e:rG.getD i 0=0:=by rw [List.getD_eq_getElem?_getD,List.getElem?_eq_none (by rw [wT];omega)];rfl
    omega
theorem RD {n:Nat} (h:n<9223372036854775808):(if IntKind.i64.signed then-(2^(IntKind.i64.bits-1):Int) else 0)≤((n:Nat):Int)∧((n:Nat):Int)≤IntKind.i64.max:=by
  simp [IntKind.signed,IntKind.bits,IntKind.max];omega
def fh:Ty Nat:=⟨1,fun x=>[.int .u8 ((x:Nat):Int)],fun _=>rfl,fun x u h=>by simp only [List.mem_singleton] at h;subst h;rfl,by omega⟩
structure Rn where
  lo:Nat
  hi:Nat
def qy:Ty Rn:=⟨2,fun d=>[.int .u8 ((d.lo:Nat):Int),.int .u8 ((d.hi:Nat):Int)],fun _=>rfl,fun d u hu=>by simp at hu;rcases hu with rfl|rfl<;>rfl,by omega⟩
structure NR where
  nm:ByteArray
  a:aO
  n:Nat
  c:Nat
  xs:List Rn
def A9:NR:=⟨.empty,none,0,0,[]⟩
def WW:Ty NR:=⟨2,fun d=>[.string d.nm,.slice d.a d.n d.c],fun _=>rfl,fun d u hu=>by simp at hu;rcases hu with rfl|rfl<;>rfl,by omega⟩
def bK (s:Bs):List Nat:=(List.range 256).filter s.has
def Dh (s:Bs) (k:Nat):List Nat:=(List.range k).flatMap fun i=>(mv (s.get i)).map fun b=>i*64+b
theorem BF (s:Bs) (k:Nat):Dh s (k+1)=Dh s k++(mv (s.get k)).map fun b=>k*64+b:=by
  unfold Dh;rw [List.range_succ,List.flatMap_append];simp
theorem Zt (s:Bs):Dh s 4=bK s:=by
  have e:bK s=Dg s.l:=by
    unfold bK Dg
    apply List.filter_congr
    intro b hb;exact FH s (List.mem_range.1 hb)
  rw [e,De rfl]
  unfold Dh
  rw [List.flatMap_def,List.flatMap_def];congr 1
theorem Nz {x:BitVec 64} (h:x≠0#64):mv x=ctz x::mv (x&&&(x-1#64)):=by
  obtain ⟨k,hk,h1,h2⟩:=Qf h;rw [Lc hk h1 h2];exact Js hk h1 h2
theorem fj {s:Bs} {b:Nat} :b∈bK s↔b<256∧s.has b=true:=by
  unfold bK;rw [List.mem_filter,List.mem_range]
theorem NA (x:BitVec 64):(mv x).length≤64:=by
  unfold mv;exact Nat.le_trans (List.length_filter_le _ _) (by simp)
theorem Gr (s:Bs):∀k,(Dh s k).length≤64*k
  | 0=>by simp [Dh]
  | k+1=>by rw [BF,List.length_append,List.length_map];have:=Gr s k;have:=NA (s.get k);omega
def bM (lo hi:Nat):Bs:=(List.range' lo (hi+1-lo)).foldl kB Bs.zero
theorem xR (lo n:Nat) (s:Bs):(List.range' lo (n+1)).foldl kB s=kB ((List.range' lo n).foldl kB s) (lo+n):=by
  rw [List.range'_concat,List.foldl_append];simp
theorem yE {lo hi x:Nat} (hh:hi<256) (hx:x<256):(bM lo hi).has x=decide (lo≤x∧x≤hi):=by
  unfold bM
  rw [rC _ _ (fun c hc=>by have:=List.mem_range'_1.1 hc;omega) x hx,eo,Bool.or_false,decide_eq_decide,List.mem_range'_1]
  omega
def nJ (l:List Rn):Bs:=l.foldl (fun s q=>sw s (bM q.lo q.hi)) Bs.zero
theorem G8 {l:List Rn} {k:Nat} (hk:k<l.length) (s:Bs):(l.take (k+1)).foldl (fun s q=>sw s (bM q.lo q.hi)) s=sw ((l.take k).foldl (fun s q=>sw s (bM q.lo q.hi)) s) (bM (l.getD k ⟨0,0⟩).lo (l.getD k ⟨0,0⟩).hi):=by
  rw [List.getD_eq_getElem?_getD,List.getElem?_eq_getElem hk,List.take_add_one,List.getElem?_eq_getElem hk,List.foldl_append];rfl
def oD:List (ByteArray×List Rn):=
  [(⟨#[97,108,110,117,109]⟩,[⟨48,57⟩,⟨65,90⟩,⟨97,122⟩]),(⟨#[97,108,112,104,97]⟩,[⟨65,90⟩,⟨97,122⟩]),(⟨#[98,108,97,110,107]⟩,[⟨9,9⟩,⟨32,32⟩]),(⟨#[99,110,116,114,108]⟩,[⟨0,31⟩,⟨127,127⟩]),
   (⟨#[100,105,103,105,116]⟩,[⟨48,57⟩]),(⟨#[103,114,97,112,104]⟩,[⟨33,126⟩]),(⟨#[108,111,119,101,114]⟩,[⟨97,122⟩]),(⟨#[112,114,105,110,116]⟩,[⟨32,126⟩]),
   (⟨#[112,117,110,99,116]⟩,[⟨33,47⟩,⟨58,64⟩,⟨91,96⟩,⟨123,126⟩]),(⟨#[115,112,97,99,101]⟩,[⟨9,13⟩,⟨32,32⟩]),(⟨#[117,112,112,101,114]⟩,[⟨65,90⟩]),(⟨#[120,100,105,103,105,116]⟩,[⟨48,57⟩,⟨65,70⟩,⟨97,102⟩])]
def cA (name:ByteArray):Bs:=match oD.find? (fun r=>decide (r.1=name)) with|some r=>nJ r.2|none=>Bs.zero
def fY (name:ByteArray):Bool:=(oD.find? (fun r=>decide (r.1=name))).isSome
theorem QW {l:List NR} {name:ByteArray} :∀ {k:Nat},k<l.length→(∀j,j<k→(l.getD j A9).nm≠name)→(l.getD k A9).nm=name→
    (l.map fun r=>(r.nm,r.xs)).find? (fun r=>decide (r.1=name))=some ((l.getD k A9).nm,(l.getD k A9).xs):=by
  induction l with
  | nil=>intro k hk;simp at hk
  | cons r l ih=>
    intro k hk hn he
    cases k with
    | zero=>simp at he ⊢;simp [he]
    | succ k=>
      have h0:=hn 0 oz
      simp at h0
      rw [List.map_cons,List.find?_cons_of_neg (by simpa using h0)]
      have:=ih (k:=k) (by simpa using hk) (fun j hj=>by have:=hn (j+1) oz;simpa using this) (by simpa using he)
      simpa using this
theorem Nt {l:List NR} (hl:l.map (fun r=>(r.nm,r.xs))=oD) {k:Nat} {name:ByteArray} (hk:k<l.length) (hn:∀j,j<k→(l.getD j A9).nm≠name) (he:(l.getD k A9).nm=name):cA name=nJ (l.getD k A9).xs∧fY name=true:=by
  have h:=QW hk hn he
  rw [hl] at h
  unfold cA fY
  rw [h];exact ⟨rfl,rfl⟩
theorem Jb {l:List NR} (hl:l.map (fun r=>(r.nm,r.xs))=oD) {name:ByteArray} (hn:∀j,j<l.length→(l.getD j A9).nm≠name):cA name=Bs.zero∧fY name=false:=by
  have h:(l.map fun r=>(r.nm,r.xs)).find? (fun r=>decide (r.1=name))=none:=by
    rw [List.find?_eq_none]
    intro x hx
    obtain ⟨r,hr,rfl⟩:=List.mem_map.1 hx
    obtain ⟨j,hj,e⟩:=List.mem_iff_getElem.1 hr
    have:=hn j hj
    rw [List.getD_eq_getElem?_getD,List.getElem?_eq_getElem hj,Option.getD_some,e] at this
    simpa using this
  rw [hl] at h
  unfold cA fY
  rw [h];exact ⟨rfl,rfl⟩
theorem Tu {l:List NR} (hl:l.map (fun r=>(r.nm,r.xs))=oD) {k:Nat} (hk:k<l.length):∀r,r∈(l.getD k A9).xs→r.lo<256∧r.hi<256:=by
  have h:∀x,x∈oD→∀r,r∈x.2→r.lo<256∧r.hi<256:=by
    have h2:(oD.all fun x=>x.2.all fun r=>decide (r.lo<256)&&decide (r.hi<256))=true:=by decide+kernel
    intro x hx r hr
    have:=List.all_eq_true.1 (List.all_eq_true.1 h2 x hx) r hr
    simpa using this
  have hm:((l.getD k A9).nm,(l.getD k A9).xs)∈oD:=by
    rw [←hl];exact List.mem_map.2 ⟨_,au hk,rfl⟩
  exact fun r hr=>h _ hm r hr
theorem OX {l:List NR} (hl:l.map (fun r=>(r.nm,r.xs))=oD):l.length=12:=by
  have:=congrArg List.length hl;rw [List.length_map] at this;exact this
def ku (c:Nat):Bs:=if c=100 then cA ⟨#[100,105,103,105,116]⟩ else if c=115 then cA ⟨#[115,112,97,99,101]⟩ else sw (cA ⟨#[97,108,110,117,109]⟩) (gU [95])
def dm (c:Nat):Bs×Bool:=
  if c=110 then (gU [10],true) else if c=116 then (gU [9],true) else if c=114 then (gU [13],true)
  else if c=100∨c=115∨c=119 then (ku c,true)
  else if c=68∨c=83∨c=87 then (gF (ku (c|||32)),true)
  else if (cA ⟨#[97,108,110,117,109]⟩).has c=true then (Bs.zero,false) else (gU [c],true)
theorem iD {x y t:Bool} (h:x=y):Value.tuple #[.bool x,.bool t]= .tuple #[.bool y,.bool t]:=by rw [h]
theorem CS {c:Nat} (h:c=68∨c=83∨c=87):c|||32=100∨c|||32=115∨c|||32=119:=by
  rcases h with rfl|rfl|rfl<;>decide
theorem Jm (s:Bs):(bK s).length≤256:=by unfold bK;exact Nat.le_trans (List.length_filter_le _ _) (by simp)
def dc (p:Nat→Bool):Bs:=gU ((List.range 256).filter p)
theorem ux (p:Nat→Bool) {x:Nat} (hx:x<256):(dc p).has x=p x:=by
  unfold dc;rw [nZ (fun c hc=>List.mem_range.1 (List.mem_filter.1 hc).1) hx,Bool.eq_iff_iff,decide_eq_true_eq,List.mem_filter,List.mem_range]
  exact ⟨fun h=>h.2,fun h=>⟨hx,h⟩⟩
theorem pE {s:Bs} {p:Nat→Bool} (h:∀x,x<256→s.has x=p x):s=dc p:=Bs.te fun b hb=>by rw [h b hb,ux p hb]
def ki (b:Nat):Bool:=decide (65≤b∧b≤90)
def kq (b:Nat):Bool:=decide (97≤b∧b≤122)
def iZ (b:Nat):Bool:=decide (48≤b∧b≤57)
def ed (name:ByteArray) (b:Nat):Bool:=
  if name=⟨#[97,108,112,104,97]⟩ then ki b||kq b
  else if name=⟨#[100,105,103,105,116]⟩ then iZ b
  else if name=⟨#[97,108,110,117,109]⟩ then ki b||kq b||iZ b
  else if name=⟨#[117,112,112,101,114]⟩ then ki b
  else if name=⟨#[108,111,119,101,114]⟩ then kq b
  else if name=⟨#[115,112,97,99,101]⟩ then decide (9≤b∧b≤13∨b=32)
  else if name=⟨#[98,108,97,110,107]⟩ then decide (b=9∨b=32)
  else if name=⟨#[112,117,110,99,116]⟩ then decide (33≤b∧b≤126)&& !ki b&& !kq b&& !iZ b
  else if name=⟨#[103,114,97,112,104]⟩ then decide (33≤b∧b≤126)
  else if name=⟨#[112,114,105,110,116]⟩ then decide (32≤b∧b≤126)
  else if name=⟨#[99,110,116,114,108]⟩ then decide (b<32∨b=127)
  else if name=⟨#[120,100,105,103,105,116]⟩ then iZ b||decide (65≤b∧b≤70∨97≤b∧b≤102)
  else false
def isOk (name:ByteArray):Bool:=
  decide (name=⟨#[97,108,112,104,97]⟩∨name=⟨#[100,105,103,105,116]⟩∨name=⟨#[97,108,110,117,109]⟩∨name=⟨#[117,112,112,101,114]⟩∨name=⟨#[108,111,119,101,114]⟩∨name=⟨#[115,112,97,99,101]⟩∨name=⟨#[98,108,97,110,107]⟩∨name=⟨#[112,117,110,99,116]⟩∨name=⟨#[103,114,97,112,104]⟩∨name=⟨#[112,114,105,110,116]⟩∨name=⟨#[99,110,116,114,108]⟩∨name=⟨#[120,100,105,103,105,116]⟩)
def kr (c x:Nat):Bool:=
  if c=110 then decide (x=10) else if c=116 then decide (x=9) else if c=114 then decide (x=13)
  else if c=100 then iZ x else if c=68 then !iZ x
  else if c=115 then ed ⟨#[115,112,97,99,101]⟩ x else if c=83 then !ed ⟨#[115,112,97,99,101]⟩ x
  else if c=119 then ed ⟨#[97,108,110,117,109]⟩ x||decide (x=95) else if c=87 then !ed ⟨#[97,108,110,117,109]⟩ x&&decide (x≠95)
  else decide (x=c)&& !ed ⟨#[97,108,110,117,109]⟩ x
theorem l5 {r:Bs} {p:Nat→Bool} {k:Nat} (hk:k<256) (hp:p k=true) (hr:∀x,x<256→r.has x=(decide (x<k)&&p x)):∀x,x<256→(kB r k).has x=(decide (x<k+1)&&p x):=by
  intro x hx
  rw [FI hk hx,hr x hx]
  by_cases e:x=k
  · subst e;simp [hp]
  · have:decide (x<k+1)=decide (x<k):=by rw [decide_eq_decide];omega
    rw [this];simp [e]
theorem pd {r:Bs} {p:Nat→Bool} {k:Nat} (hp:p k=false) (hr:∀x,x<256→r.has x=(decide (x<k)&&p x)):∀x,x<256→r.has x=(decide (x<k+1)&&p x):=by
  intro x hx
  rw [hr x hx]
  by_cases e:x=k
  · subst e;simp [hp]
  · have:decide (x<k+1)=decide (x<k):=by rw [decide_eq_decide];omega
    rw [this]
def bn (s:ByteArray) (j:Nat):Nat:=(s.data.toList.getD j 0).toNat
theorem cV (s:ByteArray) (j:Nat):bn s j<256:=by unfold bn;have:=(s.data.toList.getD j 0).toNat_lt;omega
section
variable {P:Program} {Γ:Env} {w:World} {ty:TypeId} {K:Value→World→Prop} {xt yt:TypeId} {x y:Operand}
theorem Nl {t:TypeId} {ix:Operand} {s:ByteArray} {kd:IntKind} {i:Int} (j:Nat) (ht:P.underlying t=some .string) (hx:ev Γ x=some (.string s)) (hi:ev Γ ix=some (.int kd i)) (cN:i=((j:Nat):Int)) (hj:j<s.size) (k:K (.int .u8 ((bn s j:Nat):Int)) w):az P Γ w (.index t x ix) ty K:=
  Nk j ht hx hi cN hj k
theorem wrap_u8' {z:Int} (h0:0≤z) (h1:z≤255):IntKind.u8.wrap z=z:=by
  simp only [IntKind.wrap,IntKind.signed,IntKind.bits];simp;omega
end
theorem z8 {w w':World} (h:RowKit.Below w.heap.size w w'):di [] w w':=⟨h.os,h.tape,h.output,h.size,fun k hk _=>h.block k hk⟩
theorem DW {w w':World} (h:di [] w w'):aE w [] w' []:=⟨Hp.nil _,h.nil,fun g hg=>by simp [dI] at hg⟩
theorem BQ {w w':World} (h:RowKit.Below w.heap.size w w'):aE w [] w' []:=DW (z8 h)
section
variable {P:Program} {Γ:Env} {w:World} {ty:TypeId} {K:Value→World→Prop}
end
section
variable {P:Program} {Γ:Env} {w:World} {ty:TypeId} {K:Value→World→Prop}
theorem Gy {α:Type} {T:Ty α} :∀(xs:List α) (i:Nat),T.all (xs.drop i)=(T.all xs).drop (i*T.sz)
  | [],i=>by simp [Ty.all]
  | x::xs,0=>by simp
  | x::xs,i+1=>by
    have h1:=T.len x
    rw [List.drop_succ_cons,Gy xs i,Nat.succ_mul,Nat.add_comm (i*T.sz)]
    simp only [Ty.all,List.flatMap_cons]
    rw [←List.drop_drop,List.drop_left' (by rw [h1])]
end
theorem xi {p:Prop} (h:p:=by simp [bG]):p:=h
structure Nd where
  kind:Int
  set:Bs
  lo:Int
  hi:Int
deriving DecidableEq
def cb:Nd:=⟨0,Bs.zero,0,0⟩
inductive Tr where
  | leaf (n:Nd)
  | rep (n:Nd) (a:Tr)
  | bin (n:Nd) (a b:Tr)
def Tr.flat:Tr→List Nd
  | .leaf n=>[n]
  | .rep n a=>a.flat++[n]
  | .bin n a b=>a.flat++b.flat++[n]
def Tr.wk:Tr→Prop
  | .leaf n=>n.kind=1∨n.kind=2∨n.kind=3∨n.kind=4
  | .rep n a=>n.kind=7∧a.wk
  | .bin n a b=>(n.kind=5∨n.kind=6)∧a.wk∧b.wk
def cj (k:Int):Int:=if k=1∨k=2∨k=3∨k=4 then 0 else if k=7 then 1 else if k=5∨k=6 then 2 else-1
def Tr.root:Tr→Nd
  | .leaf n=>n
  | .rep n _=>n
  | .bin n _ _=>n
def Tr.kids:Tr→List Tr
  | .leaf _=>[]
  | .rep _ a=>[a]
  | .bin _ a b=>[a,b]
def bG (F:List Tr):List Nd:=F.flatMap Tr.flat
def JQ (F:List Tr):Prop:=∀T,T∈F→T.wk
theorem bV (F G:List Tr):bG (F++G)=bG F++bG G:=by simp [bG]
theorem cz (T:Tr):bG [T]=T.flat:=by simp [bG]
theorem Br:bG []=[]:=rfl
theorem ep (T:Tr):T.flat=bG T.kids++[T.root]:=by
  cases T<;>simp [Tr.flat,bG,Tr.kids,Tr.root]
theorem dK (T:Tr):0<T.flat.length:=by rw [ep];simp
theorem j6 {T:Tr} (h:T.wk):JQ T.kids:=by
  cases T with
  | leaf n=>intro x hx;cases hx
  | rep n a=>intro x hx;simp [Tr.kids] at hx;subst hx;exact h.2
  | bin n a b=>intro x hx;simp [Tr.kids] at hx;rcases hx with rfl|rfl<;>first|exact h.2.1|exact h.2.2
theorem eu {T:Tr} (h:T.wk):cj T.root.kind=(T.kids.length:Int):=by
  cases T with
  | leaf n=>simp only [Tr.wk] at h;simp [Tr.root,Tr.kids,cj,h]
  | rep n a=>simp [Tr.root,Tr.kids,cj,h.1]
  | bin n a b=>rcases h.1 with e|e<;>simp [Tr.root,Tr.kids,cj,e]
theorem pK (k:Int): -1≤cj k∧cj k≤2:=by unfold cj;split<;>(try split)<;>(try split)<;>omega
theorem JV {n:Nd} {F:List Tr} (hF:JQ F) (hk:cj n.kind=(F.length:Int)):∃T:Tr,T.wk∧T.root=n∧T.kids=F∧T.flat=bG F++[n]:=by
  unfold cj at hk
  match F,hF,hk with
  | [],_,hk=>
    have h:n.kind=1∨n.kind=2∨n.kind=3∨n.kind=4:=by
      refine Classical.byContradiction fun h=>?_
      rw [if_neg h] at hk;split at hk<;>(try split at hk)<;>simp at hk
    exact ⟨.leaf n,h,rfl,rfl,rfl⟩
  | [a],hF,hk=>
    have h:n.kind=7:=by
      refine Classical.byContradiction fun h=>?_
      rw [if_neg h] at hk;split at hk<;>(try split at hk)<;>simp at hk
    exact ⟨.rep n a,⟨h,hF a (by simp)⟩,rfl,rfl,by simp [Tr.flat,bG]⟩
  | [a,b],hF,hk=>
    have h:n.kind=5∨n.kind=6:=by
      refine Classical.byContradiction fun h=>?_
      rw [if_neg h] at hk;split at hk<;>(try split at hk)<;>simp at hk
    exact ⟨.bin n a b,⟨h,hF a (by simp),hF b (by simp)⟩,rfl,rfl,by simp [Tr.flat,bG]⟩
  | a::b::c::F,_,hk=>
    exfalso
    simp only [List.length_cons] at hk
    split at hk
    · omega
    · split at hk
      · omega
      · split at hk<;>omega
theorem zR {T T':Tr} (h:T.wk) (h':T'.wk) (e:T.root=T'.root):T.kids.length=T'.kids.length:=by
  have a:=eu h;have b:=eu h';rw [e] at a;omega
theorem WY {T T':Tr} (e1:T.root=T'.root) (e2:T.kids=T'.kids):T=T':=by
  cases T<;>cases T'<;>simp_all [Tr.root,Tr.kids]
theorem vx:∀(n:Nat) (F G:List Tr) (p q:List Nd),(bG F).length≤n→JQ F→JQ G→F.length=G.length→p++bG F=q++bG G→F=G∧p=q:=by
  intro n
  induction n with
  | zero=>
    intro F G p q hn hF hG hl e
    have:F=[]:=by
      rcases F with _|⟨T,F⟩
      · rfl
      · have h:=dK T;have e9:(bG (T::F)).length=T.flat.length+(bG F).length:=xi;omega
    subst this
    have:G=[]:=List.length_eq_zero_iff.1 (by simpa using hl.symm)
    subst this
    exact ⟨rfl,by simpa [bG] using e⟩
  | succ n ih=>
    intro F G p q hn hF hG hl e
    rcases List.eq_nil_or_concat F with rfl|⟨F0,T,rfl⟩
    · have:G=[]:=List.length_eq_zero_iff.1 (by simpa using hl.symm)
      subst this
      exact ⟨rfl,by simpa [bG] using e⟩
    · rcases List.eq_nil_or_concat G with rfl|⟨G0,S,rfl⟩
      · simp at hl
      · rw [List.concat_eq_append] at*
        rw [List.concat_eq_append] at*
        rw [bV,bV,cz,cz,ep T,ep S,←List.append_assoc,←List.append_assoc,←List.append_assoc,←List.append_assoc] at e
        have h1:=List.append_inj' e rfl
        have hr:T.root=S.root:=by simpa using h1.2
        have hTw:T.wk:=hF T (by simp)
        have hSw:S.wk:=hG S (by simp)
        have hk:=zR hTw hSw hr
        have e2:p++bG (F0++T.kids)=q++bG (G0++S.kids):=by
          rw [bV,bV,←List.append_assoc,←List.append_assoc];exact h1.1
        have hlen:(bG (F0++T.kids)).length≤n:=by
          rw [bV,cz,ep T] at hn
          rw [bV]
          simp only [List.length_append,List.length_cons,List.length_nil] at hn ⊢
          omega
        have Uf:F0.length=G0.length:=by simpa using hl
        have h2:=ih (F0++T.kids) (G0++S.kids) p q hlen
          (fun x hx=>by exact (List.mem_append.1 hx).elim (fun h=>hF x (by simp [h])) (fun h=>j6 hTw x h))
          (fun x hx=>by exact (List.mem_append.1 hx).elim (fun h=>hG x (by simp [h])) (fun h=>j6 hSw x h))
          (by simp [Uf,hk]) e2
        have h3:=List.append_inj h2.1 Uf
        exact ⟨by rw [h3.1,WY hr h3.2],h2.2⟩
theorem fK {F G:List Tr} {p q:List Nd} (hF:JQ F) (hG:JQ G) (hl:F.length≤G.length) (e:p++bG F=q++bG G):∃G0,G=G0++F∧p=q++bG G0:=by
  have e1:G=G.take (G.length-F.length)++G.drop (G.length-F.length):=(List.take_append_drop _ _).symm
  rw [e1,bV,←List.append_assoc] at e
  have h:=vx _ F (G.drop (G.length-F.length)) p (q++bG (G.take (G.length-F.length))) (Nat.le_refl _) hF (fun x hx=>hG x (List.mem_of_mem_drop hx)) gv e
  exact ⟨G.take (G.length-F.length),by rw [h.1];exact e1.trans (by rw [←h.1]),h.2⟩
def Sub (l:List Nd) (i:Nat) (T:Tr):Prop:=T.wk∧i<l.length∧∃f,f≤i∧l.take (i+1)=l.take f++T.flat
theorem Sub.len {l:List Nd} {i f:Nat} {x:List Nd} (hi:i<l.length) (hf:f≤i) (e:l.take (i+1)=l.take f++x):f+x.length=i+1:=by
  have:=congrArg List.length e
  simp only [List.length_take,List.length_append] at this;omega
theorem Sub.le {l:List Nd} {i:Nat} {T:Tr} (h:Sub l i T):T.flat.length≤i+1:=by
  obtain ⟨_,hi,f,hf,e⟩:=h;have:=Sub.len hi hf e;omega
theorem Sub.eq {l:List Nd} {i:Nat} {T:Tr} (h:Sub l i T):l.take (i+1)=l.take (i+1-T.flat.length)++T.flat:=by
  obtain ⟨_,hi,f,hf,e⟩:=h;have h2:=Sub.len hi hf e
  rw [show i+1-T.flat.length=f by omega];exact e
theorem jH (l:List Nd) {i:Nat} (hi:i<l.length):l.take (i+1)=l.take i++[l.getD i cb]:=by
  rw [List.take_add_one,List.getElem?_eq_getElem hi,List.getD_eq_getElem?_getD,List.getElem?_eq_getElem hi];rfl
theorem Sub.uniq {l:List Nd} {i:Nat} {T T':Tr} (h:Sub l i T) (h':Sub l i T'):T=T':=by
  obtain ⟨w,_,f,_,e⟩:=h;obtain ⟨w',_,f',_,e'⟩:=h'
  have:=vx _ [T] [T'] (l.take f) (l.take f') (Nat.le_refl _) (by intro x hx;simp at hx;subst hx;exact w) (by intro x hx;simp at hx;subst hx;exact w') rfl (by rw [cz,cz,←e,←e'])
  simpa using this.1
theorem Sub.root {l:List Nd} {i:Nat} {T:Tr} (h:Sub l i T):l.getD i cb=T.root∧∃f,f≤i∧l.take i=l.take f++bG T.kids:=by
  obtain ⟨_,hi,f,hf,e⟩:=h
  rw [jH l hi,ep,←List.append_assoc] at e
  have h1:=List.append_inj' e rfl
  exact ⟨by simpa using h1.2,f,hf,h1.1⟩
theorem Sub.mk' {l:List Nd} {i f:Nat} {F:List Tr} (hi:i<l.length) (hf:f≤i) (hF:JQ F) (hk:cj (l.getD i cb).kind=(F.length:Int)) (e:l.take i=l.take f++bG F):∃T,Sub l i T∧T.kids=F∧T.root=l.getD i cb∧f+T.flat.length=i+1:=by
  obtain ⟨T,w,hr,KQ,zA⟩:=JV hF hk
  have e2:l.take (i+1)=l.take f++T.flat:=by rw [jH l hi,zA,e,List.append_assoc]
  exact ⟨T,⟨w,hi,f,hf,e2⟩,KQ,hr,Sub.len hi hf e2⟩
theorem Sub.last {l:List Nd} {i f:Nat} {F:List Tr} {T:Tr} (hi:i≤l.length) (hf:f≤i) (hF:JQ (F++[T])) (e:l.take i=l.take f++bG (F++[T])):0<i∧Sub l (i-1) T∧T.flat.length≤i∧f≤i-T.flat.length∧l.take (i-T.flat.length)=l.take f++bG F:=by
  have hp:=dK T
  rw [bV,cz,←List.append_assoc] at e
  have hl:=congrArg List.length e
  simp only [List.length_take,List.length_append] at hl
  have QB:(l.take f++bG F).length=i-T.flat.length:=by simp only [List.length_append,List.length_take];omega
  have e3:l.take (i-T.flat.length)=l.take f++bG F:=by
    have:l.take (i-T.flat.length)=(l.take i).take (i-T.flat.length):=by rw [List.take_take,Nat.min_eq_left oz]
    rw [this,e,←QB,List.take_left]
  exact ⟨by omega,⟨hF T (by simp),by omega,i-T.flat.length,by omega,by rw [show i-1+1=i by omega,e3];exact e⟩,by omega,by omega,e3⟩
theorem Sub.rep {l:List Nd} {i:Nat} {n:Nd} {a:Tr} (h:Sub l i (.rep n a)):0<i∧Sub l (i-1) a∧a.flat.length≤i:=by
  obtain ⟨_,f,hf,e⟩:=h.root
  have:=Sub.last (F:=[]) (T:=a) (by have:=h.2.1;omega) hf (by intro x hx;simp at hx;subst hx;exact h.1.2) e
  exact ⟨this.1,this.2.1,this.2.2.1⟩
theorem Sub.bin {l:List Nd} {i:Nat} {n:Nd} {a b:Tr} (h:Sub l i (.bin n a b)):0<i∧Sub l (i-1) b∧b.flat.length<i∧Sub l (i-1-b.flat.length) a:=by
  obtain ⟨_,f,hf,e⟩:=h.root
  have h1:=Sub.last (F:=[a]) (T:=b) (by have:=h.2.1;omega) hf (by intro x hx;simp at hx;rcases hx with rfl|rfl<;>first|exact h.1.2.1|exact h.1.2.2) e
  have h2:=Sub.last (F:=[]) (T:=a) (by have:=h.2.1;omega) h1.2.2.2.1 (by intro x hx;simp at hx;subst hx;exact h.1.2.1) h1.2.2.2.2
  exact ⟨h1.1,h1.2.1,by omega,by rw [show i-1-b.flat.length=i-b.flat.length-1 by omega];exact h2.2.1⟩
theorem Sub.self {T:Tr} (h:T.wk):Sub T.flat (T.flat.length-1) T:=by
  have:=dK T
  exact ⟨h,by omega,0,by omega,by rw [show T.flat.length-1+1=T.flat.length by omega];simp⟩
theorem rB:∀(n:Nat) (F:List Tr) (l:List Nd) (i f:Nat),(bG F).length≤n→JQ F→i≤l.length→f≤i→l.take i=l.take f++bG F→∀j,f≤j→j<i→∃T,Sub l j T:=by
  intro n
  induction n with
  | zero=>
    intro F l i f hn hF hi hf e j h1 h2
    have:=congrArg List.length e
    simp only [List.length_take,List.length_append] at this;omega
  | succ n ih=>
    intro F l i f hn hF hi hf e j h1 h2
    rcases List.eq_nil_or_concat F with rfl|⟨F0,T,rfl⟩
    · have:=congrArg List.length e
      simp only [List.length_take,List.length_append,Br,List.length_nil] at this;omega
    · rw [List.concat_eq_append] at*
      have h:=Sub.last hi hf hF e
      by_cases hj:j=i-1
      · subst hj;exact ⟨T,h.2.1⟩
      · have hTw:T.wk:=hF T (by simp)
        obtain ⟨_,f2,hf2,e2⟩:=h.2.1.root
        have hp:=dK T
        have e3:l.take (i-1)=l.take f++bG (F0++T.kids):=by
          rw [bV,cz,ep T,←List.append_assoc,←List.append_assoc] at e
          rw [show i=(i-1)+1 by omega,jH l oz] at e
          rw [bV,←List.append_assoc]
          exact (List.append_inj' e rfl).1
        refine ih (F0++T.kids) l (i-1) f ?_ (fun x hx=>by exact (List.mem_append.1 hx).elim (fun h=>hF x (by simp [h])) (fun h=>j6 hTw x h)) oz oz e3 j h1 oz
        rw [bV,cz,ep T] at hn
        rw [bV]
        simp only [List.length_append,List.length_cons,List.length_nil] at hn ⊢
        omega
def c8 (n:Nd):Bool:=decide ((n.kind=1∨n.set=Bs.zero)∧(if n.kind=7 then 0≤n.lo∧n.lo≤32∧(n.hi= -1∨n.lo≤n.hi∧n.hi≤32) else n.lo=0∧n.hi=0))
def og:List Nd→Int→Option Int
  | [],c=>some c
  | n::l,c=>if cj n.kind<0∨cj n.kind>c∨¬c8 n=true then none else og l (c+(1-cj n.kind))
def cO (l:List Nd):Bool:=decide (l.length≤512)&&decide (og l 0=some 1)
theorem qq {l:List Nd} {k:Nat} (hk:k<l.length) (c:Int):og (l.drop k) c=if cj (l.getD k cb).kind<0∨cj (l.getD k cb).kind>c∨¬c8 (l.getD k cb)=true then none else og (l.drop (k+1)) (c+(1-cj (l.getD k cb).kind)):=by
  rw [List.drop_eq_getElem_cons hk,List.getD_eq_getElem?_getD,List.getElem?_eq_getElem hk];rfl
theorem tg:∀(a b:List Nd) (c:Int),og (a++b) c=(og a c).bind (og b)
  | [],b,c=>rfl
  | n::a,b,c=>by
    rw [List.cons_append,og,og]
    split
    · rfl
    · exact tg a b _
theorem qp:∀(T:Tr) (c:Int),T.wk→0≤c→(∀n,n∈T.flat→c8 n=true)→og T.flat c=some (c+1)
  | .leaf n,c,h,hc,ho=>by
    have e:cj n.kind=0:=eu (T:= .leaf n) h
    simp only [Tr.flat,og]
    rw [if_neg (by rw [e,ho n (by simp [Tr.flat])];simp;omega),e];simp
  | .rep n a,c,h,hc,ho=>by
    have e:cj n.kind=1:=eu (T:= .rep n a) h
    simp only [Tr.flat] at ho ⊢
    rw [tg,qp a c h.2 hc (fun x hx=>ho x (by simp [hx]))]
    simp only [Option.bind_some,og]
    rw [if_neg (by rw [e,ho n (by simp)];simp;omega),e];simp
  | .bin n a b,c,h,hc,ho=>by
    have e:cj n.kind=2:=eu (T:= .bin n a b) h
    simp only [Tr.flat] at ho ⊢
    rw [tg,tg,qp a c h.2.1 hc (fun x hx=>ho x (by simp [hx]))]
    simp only [Option.bind_some]
    rw [qp b (c+1) h.2.2 oz (fun x hx=>ho x (by simp [hx]))]
    simp only [Option.bind_some,og]
    rw [if_neg (by rw [e,ho n (by simp)];simp;omega),e];congr 1;omega
theorem vJ:∀(l:List Nd) (c d:Int) (F:List Tr),og l c=some d→JQ F→(F.length:Int)=c→∃G,JQ G∧(G.length:Int)=d∧bG G=bG F++l∧∀n,n∈l→c8 n=true
  | [],c,d,F,h,hF,hc=>by
    simp only [og,Option.some.injEq] at h
    exact ⟨F,hF,by omega,by simp,by intro n hn;cases hn⟩
  | n::l,c,d,F,h,hF,hc=>by
    rw [og] at h
    split at h
    · cases h
    · rename_i hn
      have hr:=pK n.kind
      have h1:0≤cj n.kind∧cj n.kind≤c:=by
        constructor
        · exact Int.not_lt.1 fun h9=>hn (.inl h9)
        · exact Int.not_lt.1 fun h9=>hn (.inr (.inl h9))
      have h2:c8 n=true:=Classical.byContradiction fun h9=>hn (.inr (.inr h9))
      have hl:(F.drop (F.length-(cj n.kind).toNat)).length=(cj n.kind).toNat:=by simp;omega
      obtain ⟨T,hw,ng,hk,zA⟩:=JV (n:=n) (F:=F.drop (F.length-(cj n.kind).toNat)) (fun x hx=>hF x (List.mem_of_mem_drop hx)) (by rw [hl];omega)
      obtain ⟨G,g1,g2,g3,g4⟩:=vJ l _ d (F.take (F.length-(cj n.kind).toNat)++[T]) h (fun x hx=>by
        rcases List.mem_append.1 hx with h9|h9
        · exact hF x (List.mem_of_mem_take h9)
        · simp at h9;subst h9;exact hw) gv
      refine ⟨G,g1,g2,?_,fun x hx=>?_⟩
      · rw [g3,bV,cz,zA,←List.append_assoc,←bV,List.take_append_drop];simp
      · rcases List.mem_cons.1 hx with rfl|h9
        · exact h2
        · exact g4 x h9
def oy (l:List Nd):Prop:=l.length≤512∧(∀n,n∈l→c8 n=true)∧∃T:Tr,T.wk∧T.flat=l
theorem fi {l:List Nd} :cO l=true↔oy l:=by
  unfold cO oy
  rw [Bool.and_eq_true,decide_eq_true_eq,decide_eq_true_eq]
  constructor
  · rintro ⟨h1,h2⟩
    obtain ⟨G,g1,g2,g3,g4⟩:=vJ l 0 1 [] h2 (by intro x hx;cases hx) rfl
    refine ⟨h1,g4,?_⟩
    match G,g1,g2,g3 with
    | [T],g1,_,g3=>exact ⟨T,g1 T (by simp),by rw [←cz,g3];simp [bG]⟩
    | [],_,g2,_=>simp at g2
    | _::_::_,_,g2,_=>simp at g2;omega
  · rintro ⟨h1,h2,T,hw,rfl⟩
    exact ⟨h1,by rw [qp T 0 hw oz h2];rfl⟩
def ZY (l:List Nd) (out:List Int):Prop:=out.length=l.length∧∀i,i<l.length→(∃T,Sub l i T∧out.getD i 0=(i:Int)+1-T.flat.length)∨((¬ ∃T,Sub l i T)∧out.getD i 0= -1)
def Vx (l:List Nd) (k:Nat) (out:List Int):Prop:=out.length=k∧∀i,i<k→(∃T,Sub l i T∧out.getD i 0=(i:Int)+1-T.flat.length)∨((¬ ∃T,Sub l i T)∧out.getD i 0= -1)
def DA (l:List Nd) (i:Nat) (k fr:Int):Prop:=(fr= -1∧¬ ∃T,Sub l i T)∨∃(F:List Tr) (f:Nat),fr=(f:Int)∧f≤i∧JQ F∧(F.length:Int)+k=cj (l.getD i cb).kind∧l.take i=l.take f++bG F
theorem DA.start (l:List Nd) (i:Nat):DA l i (cj (l.getD i cb).kind) (i:Int):= .inr ⟨[],i,rfl,Nat.le_refl _,(by intro x hx;cases hx),(by simp),xi⟩
theorem DA.zero {l:List Nd} {i:Nat} {k:Int} (hi:i<l.length) (hk:0<k) (h:DA l i k 0):DA l i (k-1) (-1):=by
  rcases h with ⟨h,_⟩|⟨F,f,e1,hf,hF,hl,e⟩
  · omega
  · have:f=0:=by omega
    subst this
    refine .inl ⟨rfl,fun ⟨T,hT⟩=>?_⟩
    obtain ⟨hr,g,hg,e2⟩:=hT.root
    have M5:=eu hT.1
    rw [hr] at hl
    obtain ⟨G0,h1,h2⟩:=fK hF (j6 hT.1) oz (e.symm.trans e2)
    have h3:G0≠[]:=by intro h9;subst h9;rw [h1] at M5;simp at M5;omega
    obtain ⟨S,G1,rfl⟩:=List.exists_cons_of_ne_nil h3
    have h4:=congrArg List.length h2
    have:=dK S
    simp [bG] at h4
    omega
theorem DA.step {l:List Nd} {i:Nat} {k fr:Int} {out:List Int} (hi:i<l.length) (ho:Vx l i out) (hk:0<k) (wM:0<fr) (h:DA l i k fr):DA l i (k-1) (out.getD (fr-1).toNat 0):=by
  rcases h with ⟨h,_⟩|⟨F,f,e1,hf,hF,hl,e⟩
  · omega
  · subst e1
    rw [show ((f:Int)-1).toNat=f-1 by omega]
    have hf0:0<f:=by omega
    rcases ho.2 (f-1) oz with ⟨T,hT,ho2⟩|⟨qJ,ho2⟩
    · refine .inr ⟨T::F,f-T.flat.length,?_,by omega,?_,?_,?_⟩
      · have:=hT.le;rw [ho2];omega
      · intro x hx;rcases List.mem_cons.1 hx with rfl|h9<;>first|exact hT.1|exact hF x h9
      · rw [List.length_cons];omega
      · have e9:=hT.eq
        rw [show f-1+1=f by omega] at e9
        rw [e,e9,show T::F=[T]++F from rfl,bV,cz,List.append_assoc]
    · refine .inl ⟨ho2,fun ⟨S,hS⟩=>qJ ?_⟩
      obtain ⟨hr,g,hg,e2⟩:=hS.root
      have M5:=eu hS.1
      rw [hr] at hl
      obtain ⟨G0,h1,h2⟩:=fK hF (j6 hS.1) oz (e.symm.trans e2)
      rcases List.eq_nil_or_concat G0 with rfl|⟨G1,T,rfl⟩
      · rw [h1] at M5;simp at M5;omega
      · rw [List.concat_eq_append] at*
        have hg2:g≤f:=by
          have:=congrArg List.length h2;simp only [List.length_take,List.length_append] at this;omega
        have:=Sub.last (l:=l) (i:=f) (f:=g) (F:=G1) (T:=T) oz hg2 (fun x hx=>j6 hS.1 x (by rw [h1];exact List.mem_append_left _ hx)) h2
        exact ⟨T,this.2.1⟩
theorem Vx.push {l:List Nd} {i:Nat} {out:List Int} (ho:Vx l i out) {x:Int} (h:(∃T,Sub l i T∧x=(i:Int)+1-T.flat.length)∨((¬ ∃T,Sub l i T)∧x= -1)):Vx l (i+1) (out++[x]):=by
  refine ⟨by simp [ho.1],fun j hj=>?_⟩
  have hl:=ho.1
  by_cases e:j=i
  · subst e
    rw [List.getD_eq_getElem?_getD,List.getElem?_append_right oz,hl];simpa using h
  · rw [List.getD_eq_getElem?_getD,List.getElem?_append_left oz,←List.getD_eq_getElem?_getD]
    exact ho.2 j oz
theorem DA.fin {l:List Nd} {i:Nat} {k fr:Int} (hi:i<l.length) (hk:k≤0∨fr<0) (hka:k=0∨0<k) (ha:0≤cj (l.getD i cb).kind) (h:DA l i k fr):(∃T,Sub l i T∧fr=(i:Int)+1-T.flat.length)∨((¬ ∃T,Sub l i T)∧fr= -1):=by
  rcases h with ⟨h,hn⟩|⟨F,f,e1,hf,hF,hl,e⟩
  · exact .inr ⟨hn,h⟩
  · have QD:k=0:=by omega
    obtain ⟨T,hT,_,_,h4⟩:=Sub.mk' hi hf hF oz e
    exact .inl ⟨T,hT,by omega⟩
theorem DA.bad {l:List Nd} {i:Nat} (ha:cj (l.getD i cb).kind<0):¬ ∃T,Sub l i T:=fun ⟨T,hT⟩=>by
  have:=eu hT.1;rw [←hT.root.1] at this;omega
theorem Vx.done {l:List Nd} {k:Nat} {out:List Int} (h:Vx l k out) (hk:k=l.length):ZY l out:=by subst hk;exact h
theorem A1 {l:List Nd} {out:List Int} (h:ZY l out):oy l↔0<l.length∧l.length≤512∧(∀i,i<l.length→0≤out.getD i 0∧c8 (l.getD i cb)=true)∧out.getD (l.length-1) 0=0:=by
  constructor
  · rintro ⟨h1,h2,T,hw,rfl⟩
    have hp:=dK T
    refine ⟨hp,h1,fun i hi=>⟨?_,h2 _ (by rw [List.getD_eq_getElem?_getD,List.getElem?_eq_getElem hi];exact List.getElem_mem _)⟩,?_⟩
    · obtain ⟨S,hS⟩:=rB _ [T] T.flat T.flat.length 0 (Nat.le_refl _) (by intro x hx;simp at hx;subst hx;exact hw) (Nat.le_refl _) oz xi i oz hi
      rcases h.2 i hi with ⟨S2,QM,e⟩|⟨hn,_⟩
      · have:=QM.le;omega
      · exact absurd ⟨S,hS⟩ hn
    · rcases h.2 (T.flat.length-1) oz with ⟨S,hS,e⟩|⟨hn,_⟩
      · rw [hS.uniq (Sub.self hw)] at e;omega
      · exact absurd ⟨T,Sub.self hw⟩ hn
  · rintro ⟨h1,h2,h3,h4⟩
    refine ⟨h2,fun n hn=>?_,?_⟩
    · obtain ⟨i,hi,rfl⟩:=List.mem_iff_getElem.1 hn
      have:=(h3 i hi).2
      rw [List.getD_eq_getElem?_getD,List.getElem?_eq_getElem hi] at this;exact this
    · rcases h.2 (l.length-1) oz with ⟨S,hS,e⟩|⟨_,e⟩
      · have hl:=hS.le
        have e2:=hS.eq
        rw [show l.length-1+1=l.length by omega] at e2 hl
        have:l.length-S.flat.length=0:=by omega
        rw [this] at e2
        exact ⟨S,hS.1,by simpa using e2.symm⟩
      · omega
structure Tk where
  kind:Int
  pos:Int
  set:Bs
  lo:Int
  hi:Int
deriving DecidableEq
def dz:Tk:=⟨0,0,Bs.zero,0,0⟩
structure Lv where
  parts:Int
  aV:Int
def fV:Lv:=⟨0,0⟩
structure PS where
  out:List Nd
  st:List Lv
  fH:Bool
def nd (k:Int):Nd:=⟨k,Bs.zero,0,0⟩
def ka (l:List Lv):Lv:=l.getD (l.length-1) fV
def eK (l:List Lv) (t:Lv):List Lv:=l.set (l.length-1) t
def aZ (p:PS):PS:=if p.fH=true then ⟨if (ka p.st).parts+1>1 then p.out++[nd 5] else p.out,eK p.st ⟨(ka p.st).parts+1,(ka p.st).aV⟩,false⟩ else p
def fA (p:PS) (n:Nd):PS:=⟨(aZ p).out++[n],(aZ p).st,true⟩
def xZ (o:List Nd) (c:Int):List Nd:=if c>1 then o++[nd 6] else o
def lN (o:List Nd) (c:Int):List Nd:=if c=0 then o++[nd 2] else o
def bW (p:PS):PS:=⟨xZ (lN (aZ p).out (ka (aZ p).st).parts) ((ka (aZ p).st).aV+1),eK (aZ p).st ⟨0,(ka (aZ p).st).aV+1⟩,false⟩
def lB (p:PS):PS:=⟨(aZ p).out,(aZ p).st++[fV],false⟩
def jY (p:PS):PS:=⟨(bW p).out,(bW p).st.take ((bW p).st.length-1),true⟩
def dw (t:Tk):Prop:=t.lo<0∨t.lo>32∨t.hi≠ -1∧(t.hi<t.lo∨t.hi>32)
instance (t:Tk):Decidable (dw t):=by unfold dw;exact inferInstance
def ei (p:PS) (t:Tk):Int:=
  if t.kind=1∨t.kind=6∨t.kind=7∨t.kind=2 then 0
  else if t.kind=5 then (if dw t then 9 else if p.fH=true then 0 else 3)
  else if t.kind=3 then (if p.st.length>20 then 4 else 0)
  else if t.kind=4 then (if p.st.length=1 then 3 else 0)
  else 9
def gb (p:PS) (t:Tk):PS:=
  if ei p t≠0 then p
  else if t.kind=1 then fA p ⟨1,t.set,0,0⟩
  else if t.kind=6 then fA p (nd 3)
  else if t.kind=7 then fA p (nd 4)
  else if t.kind=2 then bW p
  else if t.kind=5 then ⟨p.out++[⟨7,Bs.zero,t.lo,t.hi⟩],p.st,p.fH⟩
  else if t.kind=3 then lB p
  else jY p
def Pw:PS:=⟨[],[fV],false⟩
def dU (l:List Tk) (k:Nat):PS:=(l.take k).foldl gb Pw
theorem lx (l:List Tk):dU l 0=Pw:=rfl
theorem jf {l:List Tk} {k:Nat} (hk:k<l.length):dU l (k+1)=gb (dU l k) (l.getD k dz):=by
  unfold dU
  rw [List.take_add_one,List.getElem?_eq_getElem hk,List.getD_eq_getElem?_getD,List.getElem?_eq_getElem hk,List.foldl_append];rfl
def fk (l:List Tk) (k:Nat):Int:=ei (dU l k) (l.getD k dz)
theorem nM (l:List Lv) (t:Lv):(eK l t).length=l.length:=by simp [eK]
theorem dE (p:PS):(aZ p).st.length=p.st.length:=by unfold aZ;split<;>simp [nM]
theorem iU (p:PS):(bW p).st.length=p.st.length:=by simp [bW,nM,dE]
theorem Bg (p:PS):(aZ p).fH=false:=by
  unfold aZ
  split
  · rfl
  · rename_i h;simpa using h
theorem r6 {l:List Lv} (h:l≠[]) (t:Lv):ka (eK l t)=t:=by
  have:0<l.length:=List.length_pos_iff.2 h
  unfold ka
  rw [nM]
  unfold eK
  rw [List.getD_eq_getElem?_getD,List.getElem?_set_self oz];rfl
theorem q9 (l:List Lv) (s t:Lv):eK (eK l s) t=eK l t:=by
  unfold eK;simp
theorem rh (l:List Lv) (s t:Lv):eK (l++[s]) t=l++[t]:=by
  unfold eK;simp
theorem xl (l:List Lv) (s:Lv):ka (l++[s])=s:=by
  unfold ka;simp
theorem D4 {p:PS} {t:Tk} (h:ei p t=0):(gb p t).st.length=(if t.kind=3 then p.st.length+1 else if t.kind=4 then p.st.length-1 else p.st.length):=by
  unfold gb
  rw [if_neg (by simpa using h)]
  by_cases h1:t.kind=1
  · simp [h1,fA,dE]
  by_cases h2:t.kind=6
  · simp [h2,fA,dE]
  by_cases h3:t.kind=7
  · simp [h3,fA,dE]
  by_cases h4:t.kind=2
  · simp [h4,iU]
  by_cases h5:t.kind=5
  · simp [h5]
  by_cases h6:t.kind=3
  · simp [h6,lB,dE]
  by_cases h7:t.kind=4
  · simp [h7,jY,iU]
  · exfalso;unfold ei at h;simp [h1,h2,h3,h4,h5,h6,h7] at h
theorem D3 {p:PS} {t:Tk} (h:ei p t=0):(gb p t).fH=decide (t.kind=1∨t.kind=6∨t.kind=7∨t.kind=5∨t.kind=4):=by
  unfold gb
  rw [if_neg (by simpa using h)]
  by_cases h1:t.kind=1
  · simp [h1,fA]
  by_cases h2:t.kind=6
  · simp [h2,fA]
  by_cases h3:t.kind=7
  · simp [h3,fA]
  by_cases h4:t.kind=2
  · simp [h4,bW]
  by_cases h5:t.kind=5
  · have:p.fH=true:=by
      unfold ei at h
      rw [if_neg oz,if_pos h5] at h
      split at h
      · omega
      · split at h
        · assumption
        · omega
    simp [h5,this]
  by_cases h6:t.kind=3
  · simp [h6,lB]
  by_cases h7:t.kind=4
  · simp [h7,jY]
  · exfalso;unfold ei at h;simp [h1,h2,h3,h4,h5,h6,h7] at h
theorem Oq {p:PS} {t:Tk} (hp:0<p.st.length):0<(gb p t).st.length:=by
  by_cases h:ei p t=0
  · rw [D4 h]
    split
    · omega
    · split
      · rename_i h3 h4
        have:p.st.length≠1:=by
          intro h9;unfold ei at h
          rw [if_neg oz,if_neg oz,if_neg oz,if_pos h4,if_pos h9] at h;omega
        omega
      · exact hp
  · unfold gb;rw [if_pos h];exact hp
theorem jg (l:List Tk):∀k,0<(dU l k).st.length
  | 0=>by simp [lx,Pw]
  | k+1=>by
    by_cases h:k<l.length
    · rw [jf h];exact Oq (jg l k)
    · have:dU l (k+1)=dU l k:=by unfold dU;rw [List.take_of_length_le oz,List.take_of_length_le oz]
      rw [this];exact jg l k
def GI (l:List Tk) (e:Int) (out:List Nd) (at_ er:Int):Prop:=
  (∃k,k<l.length∧(∀j,j<k→fk l j=0)∧fk l k≠0∧out=[]∧at_=(l.getD k dz).pos∧er=fk l k)∨
  ((∀j,j<l.length→fk l j=0)∧(((dU l l.length).st.length>1∧out=[]∧at_=e∧er=3)∨((dU l l.length).st.length=1∧
    (((bW (dU l l.length)).out.length>512∧out=[]∧at_=0∧er=4)∨((bW (dU l l.length)).out.length≤512∧out=(bW (dU l l.length)).out∧at_=0∧er=0)))))
theorem GI.uniq {l:List Tk} {e:Int} {o o':List Nd} {a a' r r':Int} (h:GI l e o a r) (h':GI l e o' a' r'):o=o'∧a=a'∧r=r':=by
  have key:∀ {k k':Nat},(∀j,j<k→fk l j=0)→fk l k≠0→(∀j,j<k'→fk l j=0)→fk l k'≠0→k=k':=fun {k k'} h1 h2 h3 h4=>by
    rcases Nat.lt_trichotomy k k' with h|h|h
    · exact absurd (h3 _ h) h2
    · exact h
    · exact absurd (h1 _ h) h4
  rcases h with ⟨k,hk,h1,h2,rfl,rfl,rfl⟩|⟨h1,h2⟩<;>rcases h' with ⟨k',hk',wP,wO,rfl,rfl,rfl⟩|⟨wP,wO⟩
  · have:=key h1 h2 wP wO;subst this;exact ⟨rfl,rfl,rfl⟩
  · exact absurd (wP k hk) h2
  · exact absurd (h1 k' hk') wO
  · rcases h2 with ⟨a1,rfl,rfl,rfl⟩|⟨a1,⟨a2,rfl,rfl,rfl⟩|⟨a2,rfl,rfl,rfl⟩⟩<;>rcases wO with ⟨b1,rfl,rfl,rfl⟩|⟨b1,⟨b2,rfl,rfl,rfl⟩|⟨b2,rfl,rfl,rfl⟩⟩<;>first|exact ⟨rfl,rfl,rfl⟩|omega
def Sk (l:List Tk) (i:Nat) (op:Int):Prop:=(∀j,j<i→fk l j=0)∧op+1=((dU l i).st.length:Int)
theorem Sk.start (l:List Tk):Sk l 0 0:=⟨fun j hj=>by omega,rfl⟩
def mz (l:List Tk) (i:Nat):Prop:=0<i∧((l.getD (i-1) dz).kind=1∨(l.getD (i-1) dz).kind=6∨(l.getD (i-1) dz).kind=7∨(l.getD (i-1) dz).kind=5∨(l.getD (i-1) dz).kind=4)
theorem jk {l:List Tk} {i:Nat} (hi:i≤l.length) (h:∀j,j<i→fk l j=0):(dU l i).fH=true↔mz l i:=by
  cases i with
  | zero=>simp [lx,Pw,mz]
  | succ i=>rw [jf oz,D3 (h i oz),decide_eq_true_eq];unfold mz;simp
def WrR (l:List Tk) (i e op:Int):Prop:=(i= -1∧e=0∧(∀j,j<l.length→fk l j=0)∧op+1=((dU l l.length).st.length:Int))∨∃k,k<l.length∧i=(k:Int)∧(∀j,j<k→fk l j=0)∧fk l k≠0∧e=fk l k
theorem Sk.bad {l:List Tk} {i:Nat} {op e:Int} (h:Sk l i op) (hi:i<l.length) (he:fk l i=e) (c0:e≠0):WrR l (i:Int) e op:= .inr ⟨i,hi,rfl,h.1,by rw [he];exact c0,he.symm⟩
theorem Sk.next {l:List Tk} {i:Nat} {op op':Int} (h:Sk l i op) (hi:i<l.length) (he:fk l i=0) (ho:op'=(if (l.getD i dz).kind=3 then op+1 else if (l.getD i dz).kind=4 then op-1 else op)):Sk l (i+1) op':=by
  refine ⟨fun j hj=>?_,?_⟩
  · by_cases e:j=i
    · subst e;exact he
    · exact h.1 j oz
  · rw [jf hi,D4 he,ho]
    have:=h.2
    have hp:=jg l i
    split
    · push_cast;omega
    · split
      · omega
      · exact this
theorem Sk.fin {l:List Tk} {i:Nat} {op:Int} (h:Sk l i op) (hi:i=l.length):WrR l (-1) 0 op:=by subst hi;exact .inl ⟨rfl,rfl,h.1,h.2⟩
theorem By {l:List Tk} {i:Nat} (h:(l.getD i dz).kind<1∨(l.getD i dz).kind>7):fk l i=9:=by
  unfold fk ei;rw [if_neg oz,if_neg oz,if_neg oz,if_neg oz]
theorem F5 {l:List Tk} {i:Nat} (h:(l.getD i dz).kind=5) (hb:dw (l.getD i dz)):fk l i=9:=by
  unfold fk ei;rw [if_neg oz,if_pos h,if_pos hb]
theorem Bx {l:List Tk} {i:Nat} (h:(l.getD i dz).kind=5) (hb:¬dw (l.getD i dz)) (hr:¬(dU l i).fH=true):fk l i=3:=by
  unfold fk ei;rw [if_neg oz,if_pos h,if_neg hb,if_neg hr]
theorem iQ {l:List Tk} {i:Nat} (h:(l.getD i dz).kind=5) (hb:¬dw (l.getD i dz)) (hr:(dU l i).fH=true):fk l i=0:=by
  unfold fk ei;rw [if_neg oz,if_pos h,if_neg hb,if_pos hr]
theorem fL {l:List Tk} {i:Nat} (h:(l.getD i dz).kind=3):fk l i=if (dU l i).st.length>20 then 4 else 0:=by
  unfold fk ei;rw [if_neg oz,if_neg oz,if_pos h]
theorem dx {l:List Tk} {i:Nat} (h:(l.getD i dz).kind=4):fk l i=if (dU l i).st.length=1 then 3 else 0:=by
  unfold fk ei;rw [if_neg oz,if_neg oz,if_neg oz,if_pos h]
theorem iR {l:List Tk} {i:Nat} (h:(l.getD i dz).kind=1∨(l.getD i dz).kind=6∨(l.getD i dz).kind=7∨(l.getD i dz).kind=2):fk l i=0:=by
  unfold fk ei;rw [if_pos h]
def dX (l:List Tk):Prop:=(∀j,j<l.length→fk l j=0)∧(dU l l.length).st.length=1
theorem dX.next {l:List Tk} (h:dX l) {i:Nat} (hi:i<l.length):dU l (i+1)=(let t:=l.getD i dz;if t.kind=1 then fA (dU l i) ⟨1,t.set,0,0⟩ else if t.kind=6 then fA (dU l i) (nd 3) else if t.kind=7 then fA (dU l i) (nd 4)
    else if t.kind=2 then bW (dU l i) else if t.kind=5 then ⟨(dU l i).out++[⟨7,Bs.zero,t.lo,t.hi⟩],(dU l i).st,(dU l i).fH⟩ else if t.kind=3 then lB (dU l i) else jY (dU l i)):=by
  rw [jf hi];unfold gb
  rw [if_neg (by have:=h.1 i hi;unfold fk at this;simpa using this)]
theorem dX.kind {l:List Tk} (h:dX l) {i:Nat} (hi:i<l.length):1≤(l.getD i dz).kind∧(l.getD i dz).kind≤7:=by
  refine Classical.byContradiction fun h9=>?_
  have:=h.1 i hi
  rw [By oz] at this;omega
def dW (l:List Tk) (at_:Nat) (x:List Nd) (nx:Nat):Prop:=at_<nx∧nx≤l.length∧dU l nx=⟨(aZ (dU l at_)).out++x,(aZ (dU l at_)).st,true⟩
def GM (l:List Tk) (at_:Nat) (x:List Nd) (nx:Nat):Prop:=at_≤nx∧nx≤l.length∧(nx<l.length→(l.getD nx dz).kind=2∨(l.getD nx dz).kind=4)∧
  ((dU l at_).fH=false→(ka (dU l at_).st).parts=0→bW (dU l nx)=⟨xZ ((dU l at_).out++x) ((ka (dU l at_).st).aV+1),eK (dU l at_).st ⟨0,(ka (dU l at_).st).aV+1⟩,false⟩)
def tE (l:List Tk) (at_:Nat) (x:List Nd) (nx:Nat):Prop:=at_≤nx∧nx≤l.length∧(nx<l.length→(l.getD nx dz).kind=4)∧
  ((dU l at_).fH=false→ka (dU l at_).st=fV→∃c,bW (dU l nx)=⟨(dU l at_).out++x,eK (dU l at_).st ⟨0,c⟩,false⟩)
def DC (l:List Tk) (at_:Nat) (out:List Nd) (many:Int) (i:Nat):Prop:=at_≤i∧i≤l.length∧0≤many∧(many=0→out=[]∧i=at_)∧
  ((dU l at_).fH=false→(ka (dU l at_).st).parts=0→many≠0→aZ (dU l i)=⟨(dU l at_).out++out,eK (dU l at_).st ⟨many,(ka (dU l at_).st).aV⟩,false⟩)
theorem OH (l:List Tk) (k:Nat):(dU l k).st≠[]:=List.length_pos_iff.1 (jg l k)
theorem yr {p:PS} (h:p.fH=false):aZ p=p:=by unfold aZ;rw [if_neg (by rw [h];decide)]
theorem DC.start (l:List Tk) {at_:Nat} (h:at_≤l.length):DC l at_ [] 0 at_:=⟨Nat.le_refl _,h,by omega,fun _=>⟨rfl,rfl⟩,fun _ _ h9=>absurd rfl h9⟩
theorem DC.step {l:List Tk} {at_ i nx:Nat} {out x:List Nd} {many:Int} (h:DC l at_ out many i) (hp:dW l i x nx):DC l at_ (if many+1>1 then (out++x)++[nd 5] else out++x) (many+1) nx:=by
  obtain ⟨h1,h2,h3,h4,h5⟩:=h
  obtain ⟨p1,p2,p3⟩:=hp
  refine ⟨by omega,p2,by omega,fun h9=>by omega,fun hr ht _=>?_⟩
  have c0:=OH l at_
  by_cases hm:many=0
  · obtain ⟨rfl,rfl⟩:=h4 hm
    subst hm
    rw [p3,yr hr]
    unfold aZ
    rw [if_pos rfl,ht]
    simp
  · rw [p3,h5 hr ht hm]
    unfold aZ
    rw [if_pos rfl,r6 c0,q9]
    simp only
    by_cases zz:many+1>1
    · rw [if_pos zz,if_pos zz];simp
    · rw [if_neg zz,if_neg zz];simp
theorem DC.fin {l:List Tk} {at_ i:Nat} {out x:List Nd} {many:Int} (h:DC l at_ out many i) (hk:i<l.length→(l.getD i dz).kind=2∨(l.getD i dz).kind=4) (hx:x=if many=0 then [nd 2] else out):GM l at_ x i:=by
  obtain ⟨h1,h2,h3,h4,h5⟩:=h
  refine ⟨h1,h2,hk,fun hr ht=>?_⟩
  have c0:=OH l at_
  by_cases hm:many=0
  · obtain ⟨rfl,rfl⟩:=h4 hm
    rw [if_pos hm] at hx;subst hx
    unfold bW
    rw [yr hr,ht];simp [lN]
  · rw [if_neg hm] at hx;subst hx
    unfold bW
    rw [h5 hr ht hm]
    simp only
    rw [r6 c0,q9]
    simp only [lN]
    rw [if_neg hm]
def Ar (l:List Tk) (at_:Nat) (out:List Nd) (i:Nat):Prop:=at_≤i∧i≤l.length∧(i<l.length→(l.getD i dz).kind=2∨(l.getD i dz).kind=4)∧
  ((dU l at_).fH=false→ka (dU l at_).st=fV→∃c,1≤c∧bW (dU l i)=⟨(dU l at_).out++out,eK (dU l at_).st ⟨0,c⟩,false⟩)
theorem Ar.start {l:List Tk} {at_ nx:Nat} {x:List Nd} (h:GM l at_ x nx):Ar l at_ x nx:=by
  obtain ⟨h1,h2,h3,h4⟩:=h
  refine ⟨h1,h2,h3,fun hr ht=>⟨1,by omega,?_⟩⟩
  rw [h4 hr (by rw [ht];rfl),ht];simp [xZ,fV]
theorem Ar.step {l:List Tk} (hg:dX l) {at_ i nx:Nat} {out x:List Nd} (h:Ar l at_ out i) (hi:i<l.length) (hk:(l.getD i dz).kind=2) (hb:GM l (i+1) x nx):Ar l at_ ((out++x)++[nd 6]) nx:=by
  obtain ⟨h1,h2,h3,h4⟩:=h
  obtain ⟨b1,b2,b3,b4⟩:=hb
  refine ⟨by omega,b2,b3,fun hr ht=>?_⟩
  obtain ⟨c,hc,e⟩:=h4 hr ht
  have hs:dU l (i+1)=bW (dU l i):=by rw [hg.next hi];simp only [hk];simp
  have c0:=OH l at_
  rw [hs,e] at b4
  have:=b4 rfl (by simp only;rw [r6 c0])
  simp only at this
  rw [r6 c0,q9] at this
  refine ⟨c+1,by omega,?_⟩
  rw [this]
  unfold xZ
  rw [if_pos (by simp only;omega)]
  simp
theorem Ar.fin {l:List Tk} {at_ i:Nat} {out:List Nd} (h:Ar l at_ out i) (hk:i<l.length→¬(l.getD i dz).kind=2):tE l at_ out i:=by
  obtain ⟨h1,h2,h3,h4⟩:=h
  exact ⟨h1,h2,fun hi=>(h3 hi).resolve_left (hk hi),fun hr ht=>by obtain ⟨c,_,e⟩:=h4 hr ht;exact ⟨c,e⟩⟩
theorem dW.leaf {l:List Tk} (hg:dX l) {at_:Nat} {n:Nd} (h:at_<l.length) (hk:(l.getD at_ dz).kind=1∧n=⟨1,(l.getD at_ dz).set,0,0⟩∨(l.getD at_ dz).kind=6∧n=nd 3∨(l.getD at_ dz).kind=7∧n=nd 4):dW l at_ [n] (at_+1):=by
  refine ⟨by omega,by omega,?_⟩
  rw [hg.next h]
  rcases hk with ⟨hk,rfl⟩|⟨hk,rfl⟩|⟨hk,rfl⟩<;>simp only [hk]<;>simp [fA]
theorem sP {l:List Tk} {at_ nx:Nat} {x:List Nd} (h:tE l at_ x nx) (hr:(dU l at_).fH=false) (ht:ka (dU l at_).st=fV):(dU l nx).st.length=(dU l at_).st.length:=by
  obtain ⟨c,e⟩:=h.2.2.2 hr ht
  have:=congrArg (fun p=>p.st.length) e
  simpa [iU,nM] using this
theorem dW.group {l:List Tk} (hg:dX l) {at_ nx:Nat} {x:List Nd} (h:at_<l.length) (hk:(l.getD at_ dz).kind=3) (he:tE l (at_+1) x nx):nx<l.length∧dW l at_ x (nx+1):=by
  have hs:dU l (at_+1)=lB (dU l at_):=by rw [hg.next h];simp only [hk];simp
  have hr:(dU l (at_+1)).fH=false:=by rw [hs];rfl
  have ht:ka (dU l (at_+1)).st=fV:=by rw [hs];exact xl _ _
  have hlen:=sP he hr ht
  have hp:=jg l at_
  have hn:nx<l.length:=by
    refine Classical.byContradiction fun h9=>?_
    have e:nx=l.length:=by have:=he.2.1;omega
    rw [e,hg.2,hs] at hlen
    simp only [lB,List.length_append,dE,List.length_singleton] at hlen;omega
  refine ⟨hn,by have:=he.1;omega,by omega,?_⟩
  obtain ⟨c,e⟩:=he.2.2.2 hr ht
  have hk4:=he.2.2.1 hn
  rw [hg.next hn]
  simp only [hk4]
  simp only [show¬(4:Int)=1 by decide,show¬(4:Int)=6 by decide,show¬(4:Int)=7 by decide,show¬(4:Int)=2 by decide,show¬(4:Int)=5 by decide,show¬(4:Int)=3 by decide,if_false]
  unfold jY
  rw [e,hs]
  simp [lB,rh]
theorem dW.rep {l:List Tk} (hg:dX l) {at_ i:Nat} {x:List Nd} (h:dW l at_ x i) (hi:i<l.length) (hk:(l.getD i dz).kind=5):dW l at_ (x++[⟨7,Bs.zero,(l.getD i dz).lo,(l.getD i dz).hi⟩]) (i+1):=by
  refine ⟨by have:=h.1;omega,by omega,?_⟩
  rw [hg.next hi];simp only [hk]
  simp only [show¬(5:Int)=1 by decide,show¬(5:Int)=6 by decide,show¬(5:Int)=7 by decide,show¬(5:Int)=2 by decide,if_false,if_true]
  rw [h.2.2];simp
theorem tE.all {l:List Tk} (hg:dX l) {x:List Nd} {nx:Nat} (h:tE l 0 x nx):nx=l.length∧(bW (dU l l.length)).out=x:=by
  have hlen:=sP h rfl rfl
  have hn:nx=l.length:=by
    refine Classical.byContradiction fun h9=>?_
    have hn:nx<l.length:=by have:=h.2.1;omega
    have h4:=h.2.2.1 hn
    have he:=hg.1 nx hn
    rw [dx h4,hlen] at he
    simp [lx,Pw] at he
  subst hn
  obtain ⟨c,e⟩:=h.2.2.2 rfl rfl
  exact ⟨rfl,by rw [e];simp [lx,Pw]⟩
end Go.Sx
