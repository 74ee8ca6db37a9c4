/- Part 2 of the texts of this claim: what its theorem leans on. -/
import Derived.Test.YtjmbmodmepdmjabGreatDoorZAutomatonMatches1
import Derived.ChangeKeysEq
import Derived.WalkLawsBesides
import Derived.Maps.OwnOps
import Derived.Maps.OwnSet
import Derived.Carry
import Derived.Lib.AppendStr
import Derived.Lib.UnsafeStr
import Derived.Lib.Builder
import Derived.Laws.Externs
import Derived.LaidEqlPtr
import Derived.Lib.LaidTab
import Derived.Lib.ItoaNum
import Derived.Sort.OwnSortedInts
import Derived.Deep.Draws
import Derived.Shelf.SlSortCmp.NoneTotal
import Derived.WalkSmall
import Derived.ChangeMaps5
import Derived.Test.YtjmbmodmepdmjabGreatDoorRows
import Derived.Shelf.Strings.Builder1
import Derived.Shelf.Small.Bits
import Derived.Shelf.Small.Wraps
import Derived.Shelf.Strings.BuilderF
import Derived.Shelf.Strings.BuilderK
import Derived.Shelf.Strconv.Itoa0
import Derived.Shelf.Strconv.Itoa1
import Derived.Shelf.LaysM
import Derived.Shelf.Strconv.Itoa2
import Derived.Shelf.Strconv.Itoa3
import Derived.Shelf.Sort.Plain
import Derived.Shelf.Strings.BuilderCap
import Derived.Shelf.Slices.Turned
import Derived.Ground.Names2Prog
import Derived.Shelf.Slices.SearchI
import Derived.Shelf.Slices.In.SortNone
import Derived.Shelf.SlGeneric
import Derived.Ground.SlsfProg
import Derived.Test.YtjmbmodmepdmjabGreatDoorProg
namespace Go.GK
def word(p:Nat→Bool)(i:Nat):BitVec 64:=(BitVec.ofBoolListLE ((List.range 64).map fun j=>p (64*i+j))).cast (by simp)
theorem A_(p:Nat→Bool)(i j:Nat):(word p i).getLsbD j=(decide (j<64)&&p (64*i+j)):=by
 simp only[word,BitVec.getLsbD_cast,BitVec.getLsbD_ofBoolListLE]
 by_cases h:j<64
 ·simp[h]
 ·simp[h]
def BE(p:Nat→Bool):Array Value:= #[Ad (word p 0),Ad (word p 1),Ad (word p 2),Ad (word p 3)]
def bs(p:Nat→Bool):Value:= .agg (BE p)
theorem ET(p:Nat→Bool)(i:Nat)(h:i<4):(BE p)[i]?=some (Ad (word p i)):=by
 unfold BE
 match i,h with
 |0,_=>rfl
 |1,_=>rfl
 |2,_=>rfl
 |3,_=>rfl
theorem EE{p q:Nat→Bool}(h:∀x,x<256→p x=q x):BE p=BE q:=by
 have e:∀i,i<4→word p i=word q i:=fun i hi=>by
  apply BitVec.eq_of_getLsbD_eq
  intro j hj
  rw[A_,A_,h _ (by omega)]
 unfold BE
 rw[e 0 (by omega),e 1 (by omega),e 2 (by omega),e 3 (by omega)]
theorem UJ{a b:BitVec 64}(h:Ad a=Ad b):a=b:=by
 simp only[Ad,Value.int.injEq,true_and]at h
 exact BitVec.eq_of_toNat_eq (by omega)
theorem VN{p q:Nat→Bool}(h:BE p=BE q):∀x,x<256→p x=q x:=by
 intro x hx
 have h1:=ET p (x/64) (by omega)
 rw[h,ET q (x/64) (by omega)]at h1
 have h2:=UJ (Option.some.inj h1)
 have h3:=A_ p (x/64) (x %64)
 rw[←h2,A_]at h3
 have h4:x %64<64:=Nat.mod_lt _ (by decide)
 simp only[h4,decide_true,Bool.true_and]at h3
 rw[show 64*(x/64)+x %64=x by omega]at h3
 exact h3.symm
theorem R3{p q:Nat→Bool} :bs p=bs q↔∀x,x<256→p x=q x:=
 ⟨fun h=>VN (by unfold bs at h;injection h),fun h=>by unfold bs;rw[EE h]⟩
def bitsOf(a b c d:BitVec 64)(x:Nat):Bool:=
 if x<64 then a.getLsbD x else if x<128 then b.getLsbD (x-64)else if x<192 then c.getLsbD (x-128)else d.getLsbD (x-192)
theorem PU(a b c d:BitVec 64): #[Ad a,Ad b,Ad c,Ad d]=BE (bitsOf a b c d):=by
 have e0:word (bitsOf a b c d) 0=a:=by
  apply BitVec.eq_of_getLsbD_eq;intro j hj;rw[A_];simp[hj,bitsOf]
 have e1:word (bitsOf a b c d) 1=b:=by
  apply BitVec.eq_of_getLsbD_eq;intro j hj;rw[A_]
  simp only[hj,decide_true,Bool.true_and,bitsOf]
  rw[if_neg (by omega),if_pos (by omega),show 64*1+j-64=j by omega]
 have e2:word (bitsOf a b c d) 2=c:=by
  apply BitVec.eq_of_getLsbD_eq;intro j hj;rw[A_]
  simp only[hj,decide_true,Bool.true_and,bitsOf]
  rw[if_neg (by omega),if_neg (by omega),if_pos (by omega),show 64*2+j-128=j by omega]
 have e3:word (bitsOf a b c d) 3=d:=by
  apply BitVec.eq_of_getLsbD_eq;intro j hj;rw[A_]
  simp only[hj,decide_true,Bool.true_and,bitsOf]
  rw[if_neg (by omega),if_neg (by omega),if_neg (by omega),show 64*3+j-192=j by omega]
 unfold BE
 rw[e0,e1,e2,e3]
theorem Vq(p:Nat→Bool)(b:Nat):((word p (b/64)>>>(b %64))&&&1#64=1#64)↔p b=true:=by
 have h4:b %64<64:=Nat.mod_lt _ (by decide)
 have h0:(word p (b/64)>>>(b %64)).getLsbD 0=p b:=by
  rw[BitVec.getLsbD_ushiftRight,A_]
  simp only[Nat.add_zero,h4,decide_true,Bool.true_and]
  rw[show 64*(b/64)+b %64=b by omega]
 constructor
 ·intro h
  rw[←h0]
  have:=congrArg (fun v=>BitVec.getLsbD v 0) h
  simpa using this
 ·intro h
  apply BitVec.eq_of_getLsbD_eq
  intro j hj
  rw[BitVec.getLsbD_and]
  by_cases hj0:j=0
  ·subst hj0;rw[h0,h];simp
  ·simp[BitVec.getLsbD_one,hj0]
theorem WO(p:Nat→Bool)(b:Nat):word p (b/64)|||(1#64<<<(b %64))=word (fun x=>p x||x==b) (b/64):=by
 have h4:b %64<64:=Nat.mod_lt _ (by decide)
 apply BitVec.eq_of_getLsbD_eq
 intro j hj
 rw[BitVec.getLsbD_or,A_,A_,BitVec.getLsbD_shiftLeft]
 simp only[hj,decide_true,Bool.true_and]
 congr 1
 by_cases e:j=b %64
 ·subst e
  rw[show 64*(b/64)+b %64=b by omega]
  simp
 ·have:(64*(b/64)+j==b)=false:=by rw[beq_eq_false_iff_ne];omega
  rw[this]
  by_cases hl:j<b %64
  ·simp[hl]
  ·have h5:¬j-b %64=0:=by omega
   simp[BitVec.getLsbD_one,h5]
theorem Pm(p:Nat→Bool)(b i:Nat)(h:i≠b/64):word (fun x=>p x||x==b) i=word p i:=by
 apply BitVec.eq_of_getLsbD_eq
 intro j hj
 rw[A_,A_]
 have:(64*i+j==b)=false:=by rw[beq_eq_false_iff_ne];omega
 rw[this];simp
theorem VM(p:Nat→Bool)(b:Nat)(hb:b<256):(BE p).setIfInBounds (b/64) (Ad (word p (b/64)|||(1#64<<<(b %64))))=BE (fun x=>p x||x==b):=by
 rw[WO]
 apply Array.ext_getElem?
 intro i
 rw[Array.getElem?_setIfInBounds]
 have hs:(BE p).size=4:=rfl
 by_cases hi:i<4
 ·rw[ET _ i hi,ET _ i hi]
  by_cases e:b/64=i
  ·subst e;simp[hs,hi]
  ·simp[e];rw[Pm p b i (fun x=>e x.symm)]
 ·have h1:(BE p)[i]?=none:=by simp[hs];omega
  have h2:(BE (fun x=>p x||x==b))[i]?=none:=by simp[BE];omega
  rw[h1,h2,hs]
  by_cases e:b/64=i
  ·omega
  ·simp[e]
theorem UG(p q:Nat→Bool)(i:Nat):word p i|||word q i=word (fun x=>p x||q x) i:=by
 apply BitVec.eq_of_getLsbD_eq;intro j hj;rw[BitVec.getLsbD_or,A_,A_,A_];simp[hj]
theorem Si(p q:Nat→Bool)(i:Nat):word p i&&&word q i=word (fun x=>p x&&q x) i:=by
 apply BitVec.eq_of_getLsbD_eq;intro j hj;rw[BitVec.getLsbD_and,A_,A_,A_];simp[hj]
theorem Sh(p:Nat→Bool)(i:Nat): ~~~ word p i=word (fun x=> !p x) i:=by
 apply BitVec.eq_of_getLsbD_eq;intro j hj;rw[BitVec.getLsbD_not,A_,A_];simp[hj]
theorem Cx:(#[.int .u64 0, .int .u64 0, .int .u64 0, .int .u64 0]:Array Value)=BE (fun _=>false):=by
 have:word (fun _=>false)=fun _=>0#64:=by
  funext i;apply BitVec.eq_of_getLsbD_eq;intro j hj;rw[A_];simp
 unfold BE;rw[this];rfl
theorem DN(p:Nat→Bool):∀u∈BE p,u.oneCell'=true:=by
 intro u hu;simp[BE]at hu;rcases hu with rfl|rfl|rfl|rfl<;>rfl
theorem Fp(p:Nat→Bool):(BE p).size=4:=rfl
attribute [irreducible] word
end Go.GK
namespace Go.GK
section
variable {P : Program}
theorem GV{d:Nat}{e:TypeId}{k:IntKind}(he:P.underlying e=some (.int k))(h1:P.cellsOf e=1)(w:World)(xs ys:List Int):∀(is:List Nat),(∀i∈is,i<xs.length∧i<ys.length)→
  (Op.eqItems (d+1) e (P.cellsOf e) (xs.map (Value.int k)).toArray (ys.map (Value.int k)).toArray is).run P w= .ok (is.all fun i=>xs[i]?==ys[i]?) w
 | [],_=>by simp[Op.eqItems]
 |i::is,h=>by
  have hi:=h i (by simp)
  have ih:=GV (d:=d) he h1 w xs ys is (fun j hj=>h j (by simp[hj]))
  have p1:(part e (xs.map (Value.int k)).toArray (i*P.cellsOf e)).run P w= .ok (.int k xs[i]) w:=by
   simp[part,Ew he,Hi,h1,hi.1]
  have p2:(part e (ys.map (Value.int k)).toArray (i*P.cellsOf e)).run P w= .ok (.int k ys[i]) w:=by
   simp[part,Ew he,Hi,h1,hi.2]
  have p3:(Op.equalIn (d+1) e (.int k xs[i]) (.int k ys[i])).run P w= .ok (xs[i]==ys[i]) w:=by simp[Op.equalIn,BC he]
  simp only[Op.eqItems,Sem.run_bind,p1,p2,p3,Result.andThen_ok]
  by_cases e1:xs[i]=ys[i]
  ·simp only[e1,beq_self_eq_true,Bool.not_true,Bool.false_eq_true,if_false,ih,List.all_cons]
   simp[hi.1,hi.2,e1]
  ·simp[hi.1,hi.2,e1]
theorem Rr{t e:TypeId}{n:Nat}{k:IntKind}{bytes:Nat}{z:Value}(ht:P.underlying t=some (.array n e))(he:P.underlying e=some (.int k))(hz:TI P e 1 bytes z)(w:World)(xs ys:List Int)(hx:xs.length=n)(hy:ys.length=n):
  (Op.equal t (.agg (xs.map (Value.int k)).toArray) (.agg (ys.map (Value.int k)).toArray)).run P w= .ok (decide (xs=ys)) w:=by
 obtain⟨i,hi,hs,_⟩:=hz.ex
 have h1:P.cellsOf e=1:=by simp[Program.cellsOf,hi,hs]
 have key:∀d,(Op.equalIn (d+1+1) t (.agg (xs.map (Value.int k)).toArray) (.agg (ys.map (Value.int k)).toArray)).run P w= .ok (decide (xs=ys)) w:=fun d=>by
  rw[run_equalIn_array w (d+1) _ _ ht hi,GV he h1 w xs ys _ (fun i hi=>by have:=List.mem_range.1 hi;omega)]
  congr 1
  rw[Bool.eq_iff_iff]
  simp only[List.all_eq_true,List.mem_range,beq_iff_eq,decide_eq_true_iff]
  constructor
  ·intro h
   apply List.ext_getElem?
   intro j
   by_cases hj:j<n
   ·exact h j hj
   ·rw[List.getElem?_eq_none (by omega),List.getElem?_eq_none (by omega)]
  ·intro h j _;rw[h]
 unfold Op.equal Op.maxDepth
 exact key 9998
end
section
variable {P : Program} {T : TypeId} {E : Operand → Option Value} {H : Hp} {O : List A2} {x y : Operand} {Tx Ty e : TypeId} {k : IntKind} {n bytes : Nat} {z : Value}
theorem Ab.X4{xs ys:List Int}(hg:P.eqGuardType P.depth Tx=false)(ht:P.underlying Tx=some (.array n e))(he:P.underlying e=some (.int k))(hz:TI P e 1 bytes z)(hx:E x=some (.agg (xs.map (Value.int k)).toArray))(hy:E y=some (.agg (ys.map (Value.int k)).toArray))(h1:xs.length=n)(h2:ys.length=n):
  Ab P (.binOp .neq Tx x y Ty) T E H O (.bool (!decide (xs=ys))):= .AR fun a w o ho _ he' _=>by
 have h3:=Rr ht he hz w xs ys h1 h2
 have h4:=run_eqGuard_agg w .neq Tx x y (xs.map (Value.int k)).toArray (ys.map (Value.int k)).toArray hg
 have h5:(binOp .neq Tx (.agg (xs.map (Value.int k)).toArray) (.agg (ys.map (Value.int k)).toArray)).run P w= .ok (.bool (!decide (xs=ys))) w:=by
  show(do pure (.bool (!(←Op.equal Tx _ _))):Sem Value).run P w=_
  simp[h3]
 simp only[execOp,ho,Sem.run_bind,he' x _ hx,he' y _ hy,h4,Result.andThen_ok,h5,Sem.run_pure]
def Mh(p q:Nat→Bool):Bool:=(List.range 256).all fun x=>p x==q x
theorem KP{p q:Nat→Bool} :Mh p q=true↔∀x,x<256→p x=q x:=by simp[Mh,List.all_eq_true]
theorem W8{p q:Nat→Bool} :Mh p q=true↔bs p=bs q:=by rw[KP,R3]
def MV(p:Nat→Bool):List Int:=[((word p 0).toNat:Int),((word p 1).toNat:Int),((word p 2).toNat:Int),((word p 3).toNat:Int)]
theorem Uk{p q:Nat→Bool} :decide (MV p=MV q)=Mh p q:=by
 rw[Bool.eq_iff_iff,decide_eq_true_iff,W8]
 have:∀p,bs p= .agg ((MV p).map (Value.int .u64)).toArray:=fun p=>rfl
 rw[this,this]
 constructor
 ·intro h;rw[h]
 ·intro h
  have h':=congrArg (fun v:Value=>match v with| .agg a=>a.toList|_=>[]) h
  simpa [MV]using h'
theorem Ab.Vg{p q:Nat→Bool}(hg:P.eqGuardType P.depth Tx=false)(ht:P.underlying Tx=some (.array 4 e))(he:P.underlying e=some (.int .u64))(hz:TI P e 1 bytes z)(hx:E x=some (.agg (BE p)))(hy:E y=some (.agg (BE q))):
  Ab P (.binOp .neq Tx x y Ty) T E H O (.bool (!Mh p q)):=by
 have:=Ab.X4 (P:=P) (T:=T) (H:=H) (O:=O) (Ty:=Ty) (xs:=MV p) (ys:=MV q) hg ht he hz hx hy rfl rfl
 rwa [Uk]at this
end
end Go.GK
namespace Go.GK
def idx{α:Type}(l:List α)(i:Int):Option α:=if 0≤i then l[i.toNat]? else none
def A4{α:Type}(p:Prop) [Decidable p](k:Option α):Option α:=if p then k else none
def AV{α β:Type}(x:Option α)(k:α→Option β):Option β:=match x with
 |some a=>k a
 |none=>none
def Ax{X R:Type} :Nat→(X→(X→Option R)→Option R)→X→Option R
 |0,_,_=>none
 |n+1,b,x=>b x (Ax n b)
section
variable {α β X R : Type}
theorem Al{p:Prop} [Decidable p]{k:Option α}{r:α}(h:A4 p k=some r):p∧k=some r:=by
 unfold A4 at h;split at h
 ·exact⟨‹p›,h⟩
 ·cases h
theorem Ag{x:Option α}{k:α→Option β}{r:β}(h:AV x k=some r):∃a,x=some a∧k a=some r:=by
 cases x with
 |none=>cases h
 |some a=>exact⟨a,rfl,h⟩
theorem Gl{b:Bool}{x y:Option α}{r:α}(h:b=true)(hd:(bif b then x else y)=some r):x=some r:=by subst h;exact hd
theorem Gm{b:Bool}{x y:Option α}{r:α}(h:b=false)(hd:(bif b then x else y)=some r):y=some r:=by subst h;exact hd
theorem bT{p:Prop} [Decidable p]{x y:Option α}{r:α}(h:decide p=true)(hd:(bif decide p then x else y)=some r):p∧x=some r:=⟨of_decide_eq_true h,Gl h hd⟩
theorem bF{p:Prop} [Decidable p]{x y:Option α}{r:α}(h:decide p=false)(hd:(bif decide p then x else y)=some r):¬p∧y=some r:=⟨of_decide_eq_false h,Gm h hd⟩
theorem si{a b:α}(h:some a=some b):a=b:=Option.some.inj h
theorem PJ{n:Nat}{b:X→(X→Option R)→Option R}{x:X}{r:R}(h:Ax n b x=some r):∃m,n=m+1∧b x (Ax m b)=some r:=by
 cases n with
 |zero=>cases h
 |succ m=>exact⟨m,rfl,h⟩
theorem Bm{n:Nat}{b:X→(X→Option R)→Option R}{x:X}{r:R}(h:Ax n b x=some r):∃m f,n=m+1∧f=Ax m b∧b x f=some r:=by
 obtain⟨m,e,h⟩:=PJ h
 exact⟨m,_,e,rf,h⟩
theorem AX{l:List α}{i:Int}{x:α}(h:idx l i=some x):(0≤i∧i<(l.length:Nat))∧l[i.toNat]?=some x:=by
 unfold idx at h
 split at h
 ·have:=(List.getElem?_eq_some_iff.1 h).1
  exact⟨⟨by assumption,by omega⟩,h⟩
 ·cases h
theorem Aj{l:List α}{i:Int}{x:α}(h:idx l i=some x):0≤i∧i<(l.length:Nat):=(AX h).1
end
structure Cd(α:Type)where
 sz:Nat
 Lay:Hp→α→List Value→Prop
 len:∀ {H a cs},Lay H a cs→cs.length=sz
 mono:∀ {H H' a cs},H.le H'→Lay H a cs→Lay H' a cs
 one:∀ {H a cs},Lay H a cs→∀u∈cs,u.oneCell'=true
def Ap{α:Type}(c:Cd α)(H:Hp):List α→List Value→Prop
 | [],xs=>xs=[]
 |a::l,xs=> ∃cs ys,xs=cs++ys∧c.Lay H a cs∧Ap c H l ys
structure AL{α:Type}(c:Cd α)(H:Hp)(l:List α)(v:Value):Prop where
 ex:∃xs,Sl H v c.sz l.length xs∧Ap c H l xs
 le:l.length≤9223372036854775807
def Ar:Cd Int where
 sz:=1
 Lay _ n cs:=cs=[.int .i64 n]
 len h:=by subst h;rfl
 mono _ h:=h
 one h:=by subst h;intro u hu;simp at hu;subst hu;rfl
def A0:Cd Int where
 sz:=1
 Lay _ n cs:=cs=[.int .u8 n]∧0≤n∧n≤255
 len h:=by rw[h.1];rfl
 mono _ h:=h
 one h:=by rw[h.1];intro u hu;simp at hu;subst hu;rfl
def cB:Cd Bool where
 sz:=1
 Lay _ b cs:=cs=[.bool b]
 len h:=by subst h;rfl
 mono _ h:=h
 one h:=by subst h;intro u hu;simp at hu;subst hu;rfl
abbrev BF:=List UInt8
def sv(s:BF):Value:= .string ⟨⟨s⟩⟩
def cS:Cd BF where
 sz:=1
 Lay _ s cs:=cs=[sv s]
 len h:=by subst h;rfl
 mono _ h:=h
 one h:=by subst h;intro u hu;simp at hu;subst hu;rfl
abbrev AD:=Nat→Bool
def KA:Cd AD where
 sz:=4
 Lay _ p cs:=cs=(BE p).toList
 len h:=by subst h;rfl
 mono _ h:=h
 one h:=by subst h;intro u hu;exact DN _ u (by simpa using hu)
def cP{α β:Type}(c:Cd α)(d:Cd β):Cd (α×β)where
 sz:=c.sz+d.sz
 Lay H a cs:= ∃c1 c2,cs=c1++c2∧c.Lay H a.1 c1∧d.Lay H a.2 c2
 len h:=by obtain⟨c1,c2,rfl,h1,h2⟩:=h;simp[c.len h1,d.len h2]
 mono hl h:=by obtain⟨c1,c2,rfl,h1,h2⟩:=h;exact⟨c1,c2,rfl,c.mono hl h1,d.mono hl h2⟩
 one h:=by
  obtain⟨c1,c2,rfl,h1,h2⟩:=h
  intro u hu;rcases List.mem_append.1 hu with hu|hu
  ·exact c.one h1 u hu
  ·exact d.one h2 u hu
section
variable {α : Type} {c : Cd α} {H H' : Hp}
theorem Ap.len:∀ {l:List α} {xs:List Value},Ap c H l xs→xs.length=l.length*c.sz
 | [],xs,h=>by simp only[Ap]at h;subst h;simp
 |a::l,xs,⟨cs,ys,e,h1,h2⟩=>by subst e;simp[c.len h1,Ap.len h2,Nat.add_mul,Nat.add_comm]
theorem Ap.mono(hl:H.le H'):∀ {l:List α} {xs:List Value},Ap c H l xs→Ap c H' l xs
 | [],_,h=>h
 |_::_,_,⟨cs,ys,e,h1,h2⟩=>⟨cs,ys,e,c.mono hl h1,Ap.mono hl h2⟩
theorem Ap.one:∀ {l:List α} {xs:List Value},Ap c H l xs→∀u∈xs,u.oneCell'=true
 | [],xs,h,u,hu=>by simp only[Ap]at h;subst h;cases hu
 |_::_,_,⟨cs,ys,e,h1,h2⟩,u,hu=>by
  subst e
  rcases List.mem_append.1 hu with hu|hu
  ·exact c.one h1 u hu
  ·exact Ap.one h2 u hu
theorem Ap.nil:Ap c H [] []:=rfl
theorem Ap.Iy{a:α}{cs:List Value}(h:c.Lay H a cs):Ap c H [a] cs:=⟨cs,[],by simp,h,rfl⟩
theorem Ap.app:∀ {l l':List α} {xs xs':List Value},Ap c H l xs→Ap c H l' xs'→Ap c H (l++l') (xs++xs')
 | [],_,xs,_,h,h'=>by simp only[Ap]at h;subst h;simpa using h'
 |_::_,_,_,_,⟨cs,ys,e,h1,h2⟩,h'=>by subst e;exact⟨cs,_,by rw[List.append_assoc],h1,Ap.app h2 h'⟩
theorem Ap.get:∀ {l:List α} {xs:List Value} {i:Nat} {x:α},Ap c H l xs→l[i]?=some x→∃cs,c.Lay H x cs∧(∀j u,cs[j]?=some u→xs[i*c.sz+j]?=some u)∧cs=(xs.drop (i*c.sz)).take c.sz
 | [],_,_,_,_,h=>by simp at h
 |a::l,_,0,x,⟨cs,ys,e,h1,h2⟩,h=>by
  simp at h;subst h;subst e
  refine⟨cs,h1,fun j u hj=>?_,?_⟩
  ·have:=(List.getElem?_eq_some_iff.1 hj).1
   rw[Nat.zero_mul,Nat.zero_add,List.getElem?_append_left this];exact hj
  ·rw[Nat.zero_mul,List.drop_zero,List.take_append_of_le_length (by rw[c.len h1];exact Nat.le_refl _),List.take_of_length_le (by rw[c.len h1];exact Nat.le_refl _)]
 |a::l,_,i+1,x,⟨cs,ys,e,h1,h2⟩,h=>by
  subst e
  obtain⟨cs',g1,g2,g3⟩:=Ap.get h2 (by simpa using h)
  have e:(i+1)*c.sz=cs.length+i*c.sz:=by rw[c.len h1,Nat.add_mul];omega
  refine⟨cs',g1,fun j u hj=>?_,?_⟩
  ·rw[e,Nat.add_assoc,List.getElem?_append_right (by omega),Nat.add_sub_cancel_left];exact g2 j u hj
  ·rw[e,List.drop_append,List.drop_of_length_le (by omega),Nat.add_sub_cancel_left,List.nil_append];exact g3
theorem Ap.set:∀ {l:List α} {xs:List Value} {i:Nat} {y:α} {vs:List Value},Ap c H l xs→i<l.length→c.Lay H y vs→Ap c H (l.set i y) (E' xs (i*c.sz) vs)
 | [],_,_,_,_,_,h,_=>by simp at h
 |a::l,_,0,y,vs,⟨cs,ys,e,h1,h2⟩,_,hy=>by
  subst e
  refine⟨vs,ys,?_,hy,h2⟩
  unfold E'
  rw[Nat.zero_mul,List.take_zero,List.nil_append,Nat.zero_add,List.drop_append,List.drop_of_length_le (by rw[c.len h1,c.len hy];exact Nat.le_refl _),c.len h1,c.len hy];simp
 |a::l,_,i+1,y,vs,⟨cs,ys,e,h1,h2⟩,hi,hy=>by
  subst e
  refine⟨cs,E' ys (i*c.sz) vs,?_,h1,Ap.set h2 (by simpa using hi) hy⟩
  have e:(i+1)*c.sz=cs.length+i*c.sz:=by rw[c.len h1,Nat.add_mul];omega
  unfold E'
  rw[e,List.take_append,List.take_of_length_le (by omega),Nat.add_sub_cancel_left,Nat.add_assoc,List.drop_append,List.drop_of_length_le (by omega:cs.length≤cs.length+(i*c.sz+vs.length)),Nat.add_sub_cancel_left]
  simp
theorem US(xs:List Value)(k off s:Nat)(cs vs:List Value)(hcs:cs=(xs.drop k).take s)(hlen:cs.length=s)(hk:off+vs.length≤s):E' xs (k+off) vs=E' xs k (E' cs off vs):=by
 subst hcs
 have hl:s≤(xs.drop k).length:=by rw[List.length_take]at hlen;omega
 have h3:(E' ((xs.drop k).take s) off vs).length=s:=by rw[IX _ _ _ (by rw[hlen];exact hk)];exact hlen
 unfold E' at*
 rw[h3]
 have a1:xs.take (k+off)=xs.take k++(xs.drop k).take off:=by rw[List.take_add]
 have a2:((xs.drop k).take s).take off=(xs.drop k).take off:=by rw[List.take_take,Nat.min_eq_left (by omega)]
 have a3:xs.drop (k+off+vs.length)=((xs.drop k).take s).drop (off+vs.length)++xs.drop (k+s):=by
  have:xs.drop (k+off+vs.length)=(xs.drop k).drop (off+vs.length):=by rw[List.drop_drop];congr 1;omega
  rw[this]
  have e:xs.drop k=(xs.drop k).take s++xs.drop (k+s):=by
   have:=(List.take_append_drop s (xs.drop k)).symm
   rw[List.drop_drop]at this;exact this
  conv=>lhs;rw[e]
  rw[List.drop_append,hlen]
  have:off+vs.length-s=0:=by omega
  rw[this,List.drop_zero]
 rw[a1,a2,a3]
 simp
theorem Ap.part{l:List α}{xs:List Value}{i off:Nat}{x y:α}{cs vs:List Value}(h:Ap c H l xs)(hx:l[i]?=some x)(hcs:cs=(xs.drop (i*c.sz)).take c.sz)(hlen:cs.length=c.sz)(hk:off+vs.length≤c.sz)(hy:c.Lay H y (E' cs off vs)):
  Ap c H (l.set i y) (E' xs (i*c.sz+off) vs):=by
 rw[US xs _ off c.sz cs vs hcs hlen hk]
 exact h.set (List.getElem?_eq_some_iff.1 hx).1 hy
theorem Ap.take:∀ {l:List α} {xs:List Value} (m:Nat),Ap c H l xs→Ap c H (l.take m) (xs.take (m*c.sz))
 | [],xs,m,h=>by simp only[Ap]at h;subst h;simp[Ap]
 |a::l,xs,0,h=>by simp[Ap]
 |a::l,_,m+1,⟨cs,ys,e,h1,h2⟩=>by
  subst e
  refine⟨cs,ys.take (m*c.sz),?_,h1,Ap.take m h2⟩
  rw[show(m+1)*c.sz=cs.length+m*c.sz by rw[c.len h1,Nat.add_mul];omega,List.take_append,List.take_of_length_le (by omega),Nat.add_sub_cancel_left]
theorem Ap.rep{z:α}{zs:Array Value}(hz:c.Lay H z zs.toList)(h0:0<c.sz):∀m,Ap c H (List.replicate m z) (madeCells zs (m*c.sz)).toList:=by
 have hs:zs.size=c.sz:=by rw[←c.len hz];simp
 have key:∀m,(madeCells zs (m*c.sz)).toList=(List.replicate m zs.toList).flatten:=by
  intro m
  apply List.ext_getElem
  ·simp[madeCells,List.length_flatten,hs]
  ·intro i h1 h2
   simp only[madeCells,Array.toList_map,Array.toList_range,List.getElem_map,List.getElem_range]
   have hi:i<m*c.sz:=by simpa [madeCells]using h1
   have:∀m i (h:i<m*c.sz) (h2:i<(List.replicate m zs.toList).flatten.length),(List.replicate m zs.toList).flatten[i]=zs[i %zs.size]! :=by
    intro m
    induction m with
    |zero=>intro i h;simp at h
    |succ m ih=>
     intro i h h2
     simp only[List.replicate_succ,List.flatten_cons]
     by_cases hlt:i<zs.size
     ·rw[List.getElem_append_left (by simpa using hlt),Nat.mod_eq_of_lt hlt]
      simp[hlt]
     ·rw[List.getElem_append_right (by simpa using hlt)]
      have h3:i-zs.toList.length<m*c.sz:=by simp[hs];rw[Nat.add_mul]at h;omega
      rw[ih _ h3]
      have h4:(i-zs.toList.length) %zs.size=i %zs.size:=by
       have:zs.size≤i:=by omega
       simp only[Array.length_toList]
       conv=>rhs;rw[←Nat.sub_add_cancel this,Nat.add_mod_right]
      rw[h4]
   exact(this m i hi h2).symm
 intro m
 rw[key]
 induction m with
 |zero=>exact rfl
 |succ m ih=>exact⟨zs.toList,(List.replicate m zs.toList).flatten,by simp[List.replicate_succ],hz,ih⟩
theorem AL.mono{l:List α}{v:Value}(hl:H.le H')(h:AL c H l v):AL c H' l v:=by
 obtain⟨⟨xs,h1,h2⟩,h3⟩:=h
 exact⟨⟨xs,h1.mono hl,h2.mono hl⟩,h3⟩
theorem AL.sl{l:List α}{v:Value}(h:AL c H l v):JP v l.length:=by
 obtain⟨⟨xs,h1,h2⟩,h3⟩:=h
 exact h1.sl
theorem AL.one{l:List α}{v:Value}(h:AL c H l v):v.oneCell'=true:=by
 rcases h.sl with⟨rfl,_⟩|⟨a,cap,rfl,_⟩<;>rfl
theorem AL.nil:AL c H [] (.slice none 0 0):=⟨⟨[],Sl.nil H _,rfl⟩,by simp⟩
theorem AL.get{l:List α}{v:Value}{i:Int}{x:α}(h:AL c H l v)(hi:idx l i=some x):∃cs,c.Lay H x cs∧∀j u,cs[j]?=some u→Hj H (AG v (i.toNat*c.sz+j)) u:=by
 obtain⟨⟨xs,h1,h2⟩,h3⟩:=h
 obtain⟨cs,g1,g2,_⟩:=h2.get (AX hi).2
 exact⟨cs,g1,fun j u hj=>h1.cells _ u (g2 j u hj)⟩
theorem AL.of{l:List α}{v:Value}{n:Nat}{xs:List Value}(h:Sl H v c.sz n xs)(hn:n=l.length)(hx:Ap c H l xs)(hle:l.length≤9223372036854775807):AL c H l v:=by
 subst hn;exact⟨⟨xs,h,hx⟩,hle⟩
end
def cL{α:Type}(c:Cd α):Cd (List α)where
 sz:=1
 Lay H l cs:= ∃v,cs=[v]∧AL c H l v
 len h:=by obtain⟨v,rfl,_⟩:=h;rfl
 mono hl h:=by obtain⟨v,e,h⟩:=h;exact⟨v,e,h.mono hl⟩
 one h:=by obtain⟨v,rfl,h⟩:=h;intro u hu;simp at hu;subst hu;exact h.one
section
variable {P : Program} {T : TypeId} {E : Operand → Option Value} {H : Hp} {O : List A2} {x : Operand} {t : TypeId} {d : TypeDesc}
theorem Ab.HN{p u:Value}(ht:P.underlying t=some d)(hd:Hi d=false)(hx:E x=some p)(hc:Hj H p u):Ab P (.load t x) T E H O u:= .AR fun ac w o ho _ he hs=>by
 obtain⟨a,h1,h2⟩:=hc.cell hs
 rw[h1]at hx
 simp[execOp,ho,he x _ hx,Instr.loadAt,Instr.sureAddr,Fx ht hd h2]
theorem Ab.DA{v:Value}{k bytes:Nat}{z:Value}{vs:List Value}(ht:P.underlying t=some d)(hd:Hi d=true)(hsz:TI P t vs.length bytes z)(h0:vs.isEmpty=false)(hx:E x=some (AG v k))(hc:∀j u,vs[j]?=some u→Hj H (AG v (k+j)) u):
  Ab P (.load t x) T E H O (.agg vs.toArray):= .AR fun ac w o ho _ he hs=>by
 obtain⟨a,h1,h2⟩:=UA.cells hs (v:=v) (k:=k) (by intro e;subst e;simp at h0) hc
 rw[h1]at hx
 simp[execOp,ho,he x _ hx,Instr.loadAt,Instr.sureAddr,DD (w:=w) ht hd hsz h2]
end
section
variable {P : Program} {Q : Exit → Act → World → Prop} {n : Nat} {L L' : List (Nat × Value)} {H : Hp} {O : List A2}
def Q_(I:Nat→List (Nat×Value)→Hp→List A2→Prop)(n m:Nat)(H':Hp)(a:Act)(w:World):Prop:=
 ∃m' L H'' O,m'<m∧H'.le H''∧I m' L H'' O∧Fr a n L∧SH w H'' O
theorem Wp.X9{c:Code}(I:Nat→List (Nat×Value)→Hp→List A2→Prop)(m:Nat)(hI:I m L H O)
  (round:∀m L' H' O',H.le H'→I m L' H' O'→Wp P c (Exit.then (Q_ I n m H') Q) n L' H' O'):Wp P (.loop c) Q n L H O:=by
 intro a w hf hs
 refine NW (X:=Nat×List (Nat×Value)×Hp×List A2) (fun y a w=>H.le y.2.2.1∧I y.1 y.2.1 y.2.2.1 y.2.2.2∧Fr a n y.2.1∧SH w y.2.2.1 y.2.2.2) (fun y=>y.1) (x:=(m,L,H,O)) ⟨Hp.le.refl H,hI,hf,hs⟩ ?_
 rintro⟨m,L',H',O'⟩ a w ⟨h1,h2,h3,h4⟩
 refine wp_mono (round m L' H' O' h1 h2 a w h3 h4) fun e a' w' q=>?_
 cases e with
 |normal=>
  obtain⟨m',L,H'',O,g1,g2,g3,g4,g5⟩:=q
  exact⟨(m',L,H'',O),⟨h1.trans g2,g3,g4,g5⟩,g1⟩
 |_=>exact q
theorem At.X3{I:Nat→List (Nat×Value)→Hp→List A2→Prop}{m:Nat}{H':Hp}(m':Nat)(hm:m'<m)(hH:H'.le H)(hL:Sub L' L)(hI:I m' L' H O):At (Exit.then (Q_ I n m H') Q) .normal n L H O:=
 fun _ _ hf hs=>⟨m',L',H,O,hm,hH,hI,hf.sub hL,hs⟩
theorem Sub.of(h:L'.map (fun p=>lk L p.1)=L'.map (fun p=>some p.2)):Sub L' L:=by
 induction L' with
 |nil=>exact .nil
 |cons p l ih=>
  simp only[List.map_cons,List.cons.injEq]at h
  exact .cons h.1 (ih h.2)
theorem At.AZ{I:Nat→List (Nat×Value)→Hp→List A2→Prop}{m:Nat}{H':Hp}(hH:H'.le H)(hI:I m L' H O)(hL:Sub L' L):At (Exit.then (Q_ I n (m+1) H') Q) .normal n L H O:=At.X3 m (Nat.lt_succ_self _) hH hL hI
theorem Wp.Bt{c:Code}(I:Nat→List (Nat×Value)→Hp→List A2→Prop)(m:Nat)(hI:I m L' H O)(hL:Sub L' L)
 (round:∀m L' H' O',H.le H'→I m L' H' O'→Wp P c (Exit.then (Q_ I n m H') Q) n L' H' O'):Wp P (.loop c) Q n L H O:=Wp.sub hL (Wp.X9 I m hI round)
def Uy(J:List (Nat×Value)→Hp→List A2→Prop)(n:Nat)(H:Hp)(a:Act)(w:World):Prop:= ∃L H' O,H.le H'∧J L H' O∧Fr a n L∧SH w H' O
theorem At.Ya{J:List (Nat×Value)→Hp→List A2→Prop}{H':Hp}(hH:H'.le H)(hL:Sub L' L)(hJ:J L' H O):At (Exit.then (Uy J n H') Q) .normal n L H O:=
 fun _ _ hf hs=>⟨L',H,O,hH,hJ,hf.sub hL,hs⟩
theorem At.EC{J:List (Nat×Value)→Hp→List A2→Prop}{H':Hp}(hH:H'.le H)(hJ:J L' H O)(hL:Sub L' L):At (Exit.then (Uy J n H') Q) .normal n L H O:=At.Ya hH hL hJ
def Qj(ks:List Nat)(k:Nat)(O:List A2):List A2:=ks.filterMap (O[·]?)++O.drop k
def I2:List Nat→Bool
 | []=>true
 |k::ks=> !Cp ks k&&I2 ks
theorem Kq:∀ {ks:List Nat},I2 ks=true→∀(i j a:Nat),ks[i]?=some a→ks[j]?=some a→i=j
 | [],_,i,_,a,h,_=>by simp at h
 |k::ks,hn,i,j,a,hi,hj=>by
  simp only[I2,Bool.and_eq_true,Bool.not_eq_true']at hn
  have hk:∀q,ks[q]?=some k→False:=fun q hq=>by
   have:=ER.2 (List.mem_of_getElem? hq)
   rw[hn.1]at this;cases this
  cases i with
  |zero=>
   cases j with
   |zero=>rfl
   |succ j=>simp at hi hj;subst hi;exact(hk j hj).elim
  |succ i=>
   cases j with
   |zero=>simp at hi hj;subst hj;exact(hk i hi).elim
   |succ j=>rw[Kq hn.2 i j a (by simpa using hi) (by simpa using hj)]
theorem SH.Qj{w:World}(ks:List Nat)(k:Nat)(hk:(ks.all fun q=>Nat.blt q k)=true)(hn:I2 ks=true)(hl:k≤O.length)(h:SH w H O):SH w H (Qj ks k O):=by
 have hlt:∀q∈ks,q<O.length:=fun q hq=>by have:=List.all_eq_true.1 hk q hq;simp at this;omega
 have hlt2:∀q∈ks,q<k:=fun q hq=>by have:=List.all_eq_true.1 hk q hq;simpa using this
 have hfm:∀ks:List Nat,(∀q∈ks,q<O.length)→ks.filterMap (O[·]?)=ks.map (fun q=>O.getD q .emp):=by
  intro ks
  induction ks with
  |nil=>intro _;rfl
  |cons q ks ih=>
   intro h
   have hq:=h q (by simp)
   rw[List.filterMap_cons,List.getElem?_eq_getElem hq,List.map_cons,ih fun q' h'=>h q' (by simp[h'])]
   simp[hq]
 have hf:=hfm ks hlt
 refine h.pick (fun i=>if i<ks.length then ks.getD i 0 else k+(i-ks.length)) (fun i r hr=>?_) (fun i j hi hj he=>?_)
 ·unfold GK.Qj at hr
  rw[hf]at hr
  by_cases hi:i<ks.length
  ·rw[List.getElem?_append_left (by simpa using hi)]at hr
   have hq:ks[i]<O.length:=hlt _ (List.getElem_mem hi)
   simp only[List.getElem?_map,List.getElem?_eq_getElem hi,Option.map_some]at hr
   simp only[hi,if_true,List.getD_eq_getElem?_getD,List.getElem?_eq_getElem hi,Option.getD_some]
   rw[List.getD_eq_getElem?_getD,List.getElem?_eq_getElem hq]at hr
   rw[List.getElem?_eq_getElem hq];exact hr
  ·rw[List.getElem?_append_right (by simpa using hi)]at hr
   simp only[hi,if_false]
   simpa using hr
 ·by_cases h1:i<ks.length<;>by_cases h2:j<ks.length
  ·rw[if_pos h1,if_pos h2]at he
   refine Kq hn i j ks[i] (by simp[h1]) ?_
   simp only[List.getD_eq_getElem?_getD,List.getElem?_eq_getElem h1,List.getElem?_eq_getElem h2,Option.getD_some]at he
   rw[List.getElem?_eq_getElem h2,he]
  ·rw[if_pos h1,if_neg h2]at he
   have:=hlt2 _ (List.getElem_mem h1)
   simp only[List.getD_eq_getElem?_getD,List.getElem?_eq_getElem h1,Option.getD_some]at he
   omega
  ·rw[if_neg h1,if_pos h2]at he
   have:=hlt2 _ (List.getElem_mem h2)
   simp only[List.getD_eq_getElem?_getD,List.getElem?_eq_getElem h2,Option.getD_some]at he
   omega
  ·rw[if_neg h1,if_neg h2]at he
   omega
theorem SH.Bk{w:World}(hs:SH w H O){i size m:Nat}{v:Value}{e:TypeId}{xs:List Value}(hi:O[i]?=some (.row v e size m xs)):m≤9223372036854775807:=by
 have h:=hs.ok i _ hi
 simp only[A2.ok]at h
 rcases h.2 with⟨rfl,rfl⟩|⟨g,cap,cur,rfl,_,_,h1,h2,_⟩
 ·omega
 ·simp only[maxLen]at h2;omega
theorem Aa.Bk{ops:Array Oper}{rest:List Oper}{i size m:Nat}{v:Value}{e:TypeId}{xs:List Value}(hi:O[i]?=some (.row v e size m xs))(k:m≤9223372036854775807→Aa P ops Q rest n L H O):Aa P ops Q rest n L H O:=fun a w hf hs=>k (hs.Bk hi) a w hf hs
theorem Wp.Bk{c:Code}{i size m:Nat}{v:Value}{e:TypeId}{xs:List Value}(hi:O[i]?=some (.row v e size m xs))(k:m≤9223372036854775807→Wp P c Q n L H O):Wp P c Q n L H O:=fun a w hf hs=>k (hs.Bk hi) a w hf hs
theorem At.Bk{e':Exit}{i size m:Nat}{v:Value}{e:TypeId}{xs:List Value}(hi:O[i]?=some (.row v e size m xs))(k:m≤9223372036854775807→At Q e' n L H O):At Q e' n L H O:=fun a w hf hs=>k (hs.Bk hi) a w hf hs
theorem Wp.emp{c:Code}(k:Wp P c Q n L H (.emp::O)):Wp P c Q n L H O:=fun a w hf hs=>
 k a w hf (hs.push (World.grownBy.refl w none) trivial (fun b hb=>by cases hb))
end
end Go.GK
namespace Go.GK
abbrev Dw(n:Int):Prop:= -9223372036854775808≤n∧n≤9223372036854775807
abbrev F8(n:Int):Prop:=0≤n∧n≤255
abbrev AJ:Nat:=1099511627776
theorem An:∀u∈([]:List Value),u.oneCell'=true:=fun u h=>by cases h
theorem Ac{v:Value}{l:List Value}(h:v.oneCell'=true)(k:∀u∈l,u.oneCell'=true):∀u∈v::l,u.oneCell'=true:=fun u hu=>by
 rcases List.mem_cons.1 hu with rfl|hu
 ·exact h
 ·exact k u hu
theorem Bd{l:List Value}(h:∀u∈l,u.oneCell'=true):∀u∈l.toArray,u.oneCell'=true:=fun u hu=>h u (by simpa using hu)
section
variable {P : Program} {Q : Exit → Act → World → Prop} {n : Nat} {L L' : List (Nat × Value)} {H : Hp} {O : List A2}
theorem SH.AW{w:World}(ks:List Nat)(k:Nat)(hk:(ks.all fun q=>Nat.blt q k)=true)(hn:I2 ks=true)(hl:(O.take k).length=k)(h:SH w H O):SH w H (ks.filterMap (O[·]?)++O.drop k):=
 SH.Qj ks k hk hn (by rw[List.length_take]at hl;omega) h
theorem At.AW{e:Exit}(ks:List Nat)(k:Nat)(hk:(ks.all fun q=>Nat.blt q k)=true)(hn:I2 ks=true)(hl:(O.take k).length=k)(h:At Q e n L H (ks.filterMap (O[·]?)++O.drop k)):At Q e n L H O:=fun a w hf hs=>h a w hf (hs.AW ks k hk hn hl)
theorem Aa.AW{ops:Array Oper}{rest:List Oper}(ks:List Nat)(k:Nat)(hk:(ks.all fun q=>Nat.blt q k)=true)(hn:I2 ks=true)(hl:(O.take k).length=k)(h:Aa P ops Q rest n L H (ks.filterMap (O[·]?)++O.drop k)):Aa P ops Q rest n L H O:=fun a w hf hs=>h a w hf (hs.AW ks k hk hn hl)
theorem Wp.Jx{x y:Code}{Q2:Exit→Act→World→Prop}(J:List (Nat×Value)→Hp→List A2→Prop)(hx:Wp P x (Exit.then (Uy J n H) Q2) n L H O)(hy:∀L' H' O',H.le H'→J L' H' O'→Wp P y Q n L' H' O'):Wp P x (Exit.then (y.wp P Q) Q2) n L H O:=fun a w hf hs=>
 wp_mono (hx a w hf hs) fun e a' w' q=>by
  cases e with
  |normal=>
   obtain⟨L',H',O',g1,g2,g3,g4⟩:=q
   exact hy L' H' O' g1 g2 a' w' g3 g4
  |_=>exact q
end
section
variable {P : Program} {T : TypeId} {E : Operand → Option Value} {H : Hp} {O : List A2} {x y : Operand}
theorem Ab.nilCheck{b off:Nat}(hx:E x=some (ptr b off)):Ab P (.nilCheck x) T E H O (ptr b off):= .AR fun a w o ho _ he _=>by
 simp only[ptr]at hx
 simp[execOp,ho,he x _ hx,ptr]
theorem Ab.Tu{t:TypeId}{s:BF}(ht:P.underlying t=some .string)(hx:E x=some (sv s)):Ab P (.call {callee:= .builtin .len,args:= #[x],argTypes:= #[t]}) T E H O (.int .i64 ((s.length:Nat):Int)):=by
 have:=Ab.WX (P:=P) (T:=T) (H:=H) (O:=O) ht hx
 exact this
def Iz(s:BF)(i:Int):Option Int:=if 0≤i then(s[i.toNat]?).map (fun b=>(b.toNat:Int))else none
theorem JB{s:BF}{i x:Int}(h:Iz s i=some x):(0≤i∧i<(s.length:Nat))∧0≤x∧x≤255:=by
 unfold Iz at h
 split at h
 ·cases hb:s[i.toNat]? with
  |none=>rw[hb]at h;cases h
  |some b=>
   rw[hb]at h
   simp at h
   have:=(List.getElem?_eq_some_iff.1 hb).1
   have:=b.toNat_lt
   omega
 ·cases h
theorem Ab.MU{t:TypeId}{s:BF}{k:IntKind}{i z:Int}(ht:P.underlying t=some .string)(hx:E x=some (sv s))(hy:E y=some (.int k i))(h:Iz s i=some z):Ab P (.index t x y) T E H O (.int .u8 z):=by
 unfold Iz at h
 split at h
 ·rename_i h0
  cases hb:s[i.toNat]? with
  |none=>rw[hb]at h;cases h
  |some b=>
   rw[hb]at h
   simp at h
   subst h
   exact Ab.byteOf ht hx hy h0 (by
    have hlt:=(List.getElem?_eq_some_iff.1 hb).1
    show ByteArray.mk (Array.mk s) |>.data[i.toNat]?=some b
    simpa using hb)
 ·cases h
theorem Ab.Ue{t Ty:TypeId}{a b:BF}(hx:E x=some (sv a))(hy:E y=some (sv b))(h:a.length+b.length≤AJ):Ab P (.binOp .add t x y Ty) T E H O (sv (a++b)):= .AR fun ac w o ho _ he _=>by
 have h1:¬(((ByteArray.mk (Array.mk a)).size+(ByteArray.mk (Array.mk b)).size:Nat):Int)>IntKind.i64.max:=by
  have e1:(ByteArray.mk (Array.mk a)).size=a.length:=rfl
  have e2:(ByteArray.mk (Array.mk b)).size=b.length:=rfl
  rw[e1,e2]
  simp[IntKind.max,IntKind.signed,IntKind.bits,AJ]at*
  omega
 have h2:ByteArray.mk (Array.mk a)++ByteArray.mk (Array.mk b)=ByteArray.mk (Array.mk (a++b)):=by
  apply ByteArray.ext
  rw[ByteArray.data_append]
  simp
 simp only[sv]at*
 simp only[execOp,ho,he x _ hx,he y _ hy,eqGuard,binOp,Op.stringOp,if_neg h1,h2]
 simp
theorem Ab.Ga{t:TypeId}{d:TypeDesc}{B off i bytes:Nat}{z:Value}{cs:Array Value}{t':TypeId}{fr:Nat×Nat}{vs:List Value}(ht:P.underlying t=some d)(hd:Hi d=true)(hsz:TI P t vs.length bytes z)(hx:E x=some (ptr B off))(hi:O[i]?=some (.Az B (.cells cs t' fr)))
  (hv:(cs.toList.drop off).take vs.length=vs):Ab P (.load t x) T E H O (.agg vs.toArray):=
 Ab.Tv ht hd hsz hx hi fun j u hj=>by
  have hlt:=(List.getElem?_eq_some_iff.1 hj).1
  have:((cs.toList.drop off).take vs.length)[j]?=some u:=by rw[hv];exact hj
  rw[List.getElem?_take]at this
  simp[hlt]at this
  simpa using this
end
section
variable {P : Program} {Q : Exit → Act → World → Prop} {n : Nat} {L : List (Nat × Value)} {H : Hp} {O : List A2} {ops : Array Oper} {rest : List Oper} {T : TypeId}
variable {α : Type} {c : Cd α}
theorem Ap.XU{z:α}{v:Value}(h:c.Lay H z [v]):∀m,Ap c H (List.replicate m z) (List.replicate m v)
 |0=>rfl
 |m+1=>⟨[v],List.replicate m v,by simp[List.replicate_succ],h,Ap.XU h m⟩
theorem Aa.WB{l:List α}{xs:List Value}{i:Int}{x0:α}{pos:String}{af:Array Edge}{px py:Operand}{t e:TypeId}{v u z:Value}{bytes sz:Nat}{cs vs:List Value}(q off:Nat)(y:α)(hL:Ap c H l xs)(hg:idx l i=some x0)
  (hcs:cs=(xs.drop (i.toNat*c.sz)).take c.sz) (hx:ev L px=some (AG v (i.toNat*c.sz+off))) (hy:ev L py=some u) (hv:u.cells.toList=vs) (hsz:TI P t sz bytes z) (hs:vs.length=sz) (h0:Nat.blt 0 sz=true)
  (h1:∀u∈vs,u.oneCell'=true) (hi:O[q]?=some (.row v e c.sz l.length xs)) (hlay:c.Lay H y (E' cs off vs)) (hoff:Nat.ble (off+vs.length) c.sz=true)
  (kk:∀xs',Ap c H (l.set i.toNat y) xs'→Aa P ops Q rest n L H (O.set q (.row v e c.sz (l.set i.toNat y).length xs'))):
  Aa P ops Q ({dst:=none,op:= .store t px py,type:=T,pos,after:=af,guard:=none} ::rest) n L H O:=by
 obtain⟨⟨hi0,hi1⟩,hget⟩:=AX hg
 have hlen:=hL.len
 have hcl:cs.length=c.sz:=by
  obtain⟨cs',g1,_,g3⟩:=hL.get hget
  rw[hcs,←g3];exact c.len g1
 have hoff':=Nat.le_of_ble_eq_true hoff
 have hb:i.toNat*c.sz+c.sz≤l.length*c.sz:=by rw[←Nat.succ_mul];exact Nat.mul_le_mul_right _ (by omega)
 refine Aa.N9 (i:=q) hx hy hv hsz hs (by simpa using h0) h1 hi (by omega) ?_
 have:=kk _ (hL.part hget hcs hcl (by omega) hlay)
 rwa [List.length_set]at this
theorem Aa.MG{d:Tmp}{pos:String}{af:Array Edge}{pl pc:Operand}{t e:TypeId}{bytes:Nat}{zv:Value}{kl kc:IntKind}{m:Nat}{z:α}(ht:P.underlying t=some (.slice e))(hz:TI P e c.sz bytes zv)(hl:ev L pl=some (.int kl (m:Int)))(hc:ev L pc=some (.int kc (m:Int)))
  (hm:m≤AJ) (hlay:c.Lay H z zv.cells.toList) (hd:Nat.blt d n=true) (hb:Nat.ble bytes 256=true) (h0:Nat.blt 0 c.sz=true)
  (k:∀v xs,Ap c H (List.replicate m z) xs→Aa P ops Q rest n ((d,v)::L) H (.row v e c.sz (List.replicate m z).length xs::O)):
  Aa P ops Q ({dst:=some d,op:= .makeSlice t pl pc,type:=T,pos,after:=af,guard:=none} ::rest) n L H O:=by
 have hb':=Nat.le_of_ble_eq_true hb
 have hbm:bytes*m≤256*1099511627776:=Nat.mul_le_mul hb' hm
 refine Aa.make (m:=m) ht hz hl hc (by omega) (by simp only[AJ]at hm;omega) hd fun v=>?_
 have:=k v _ (Ap.rep hlay (by simpa using h0) m)
 rwa [List.length_replicate]at this
theorem Aa.Bv{d:Tmp}{pos:String}{af:Array Edge}{t e:TypeId}{bytes:Nat}{z v:Value}{cs:List Value}{x:Operand}{y:α}(ht:P.underlying t=some (.slice e))(hz:TI P e c.sz bytes z)
  (hlen:Nat.ble c.sz 16777216=true) (h0:Nat.blt 0 c.sz=true) (hx:ev L x=some v) (hc:v.cells.toList=cs) (hlay:c.Lay H y cs) (hd:Nat.blt d n=true)
  (k:∀v' xs,Ap c H [y] xs→Aa P ops Q rest n ((d,v')::L) H (.row v' e c.sz [y].length xs::O)):
  Aa P ops Q ({dst:=some d,op:= .buildSlice t 1 #[(0,x)],type:=T,pos,after:=af,guard:=none} ::rest) n L H O:=by
 subst hc
 refine Aa.Hf (cs:=v.cells) ht hz hlen h0 hx rf ?_ hd fun v'=>k v' _ (Ap.Iy hlay)
 rw[←c.len hlay];simp
theorem Aa.VJ{d:Tmp}{pos:String}{af:Array Edge}{t e:TypeId}{l:List α}{bytes:Nat}{z:Value}{zs cs:Array Value}{ps:List (Nat×Operand)}{vs:List (Nat×Value)}{len:Nat}(ht:P.underlying t=some (.slice e))(hz:TI P e c.sz bytes z)(hzc:z.cells=zs)
  (hlen:Nat.ble (len*c.sz) 16777216=true) (h0:Nat.blt 0 (len*c.sz)=true) (hps:OP (ev L) ps=some vs) (hf:Instr.fill (fun i=>some (i*c.sz,c.sz)) ((Array.range (len*c.sz)).map (zs[· %zs.size]!)) vs=some cs) (hll:l.length=len) (hlay:Ap c H l cs.toList) (hd:Nat.blt d n=true)
  (k:∀v' xs,Ap c H l xs→Aa P ops Q rest n ((d,v')::L) H (.row v' e c.sz l.length xs::O)):
  Aa P ops Q ({dst:=some d,op:= .buildSlice t len ps.toArray,type:=T,pos,after:=af,guard:=none} ::rest) n L H O:=by
 refine Aa.Q5 ht hz hzc hlen h0 hps hf ?_ hd fun v'=>?_
 ·have:=hlay.len;rw[hll]at this;simpa using this
 ·have:=k v' _ hlay;rwa [hll]at this
theorem Aa.Hz{d:Tmp}{pos:String}{af:Array Edge}{s x:Operand}{t e e2:TypeId}{bytes:Nat}{z v y:Value}{l l2:List α}{xs ys:List Value}(i j:Nat)(hL:Ap c H l xs)(hL2:Ap c H l2 ys)(ht:P.underlying t=some (.slice e))(hz:TI P e c.sz bytes z)(hzs:z.cells.size=c.sz)(h0:Nat.blt 0 c.sz=true)
  (hs:ev L s=some v) (hx:ev L x=some y) (hi:O[i]?=some (.row v e c.sz l.length xs)) (hj:O[j]?=some (.row y e2 c.sz l2.length ys)) (hb:Nat.ble bytes 64=true) (hl:l.length+l2.length≤AJ) (hd:Nat.blt d n=true)
  (k:∀v' xs',Ap c H (l++l2) xs'→Aa P ops Q rest n ((d,v')::L) H (O.set i (.row v' e c.sz (l++l2).length xs'))):
  Aa P ops Q ({dst:=some d,op:= .call {callee:= .builtin .append,args:= #[s,x],argTypes:= #[t,t]},type:=T,pos,after:=af,guard:=none} ::rest) n L H O:=by
 have hb':=Nat.le_of_ble_eq_true hb
 have hbm:(l.length+l2.length)*bytes≤1099511627776*64:=Nat.mul_le_mul hl hb'
 refine Aa.append ht hz hzs (by simpa using h0) hs hx hi (fun w hs=>hs.J1 hj) hL2.one (by omega) (by simp only[AJ]at hl;omega) hd fun v'=>?_
 have:=k v' _ (hL.app hL2)
 rwa [List.length_append]at this
theorem Aa.YP{d:Tmp}{pos:String}{af:Array Edge}{s x:Operand}{t e:TypeId}{bytes:Nat}{z v y:Value}{l l2:List α}{xs:List Value}(i:Nat)(hL:Ap c H l xs)(hL2:AL c H l2 y)(ht:P.underlying t=some (.slice e))(hz:TI P e c.sz bytes z)(hzs:z.cells.size=c.sz)(h0:Nat.blt 0 c.sz=true)
  (hs:ev L s=some v) (hx:ev L x=some y) (hi:O[i]?=some (.row v e c.sz l.length xs)) (hb:Nat.ble bytes 64=true) (hl:l.length+l2.length≤AJ) (hd:Nat.blt d n=true)
  (k:∀v' xs',Ap c H (l++l2) xs'→Aa P ops Q rest n ((d,v')::L) H (O.set i (.row v' e c.sz (l++l2).length xs'))):
  Aa P ops Q ({dst:=some d,op:= .call {callee:= .builtin .append,args:= #[s,x],argTypes:= #[t,t]},type:=T,pos,after:=af,guard:=none} ::rest) n L H O:=by
 have hb':=Nat.le_of_ble_eq_true hb
 have hbm:(l.length+l2.length)*bytes≤1099511627776*64:=Nat.mul_le_mul hl hb'
 obtain⟨⟨ys,g1,g2⟩,_⟩:=hL2
 refine Aa.append ht hz hzs (by simpa using h0) hs hx hi (fun w hs=>hs.WC g1) g2.one (by omega) (by simp only[AJ]at hl;omega) hd fun v'=>?_
 have:=k v' _ (hL.app g2)
 rwa [List.length_append]at this
end
end Go.GK
namespace Go.GK
section
variable {P : Program} {Q : Exit → Act → World → Prop} {n : Nat} {L : List (Nat × Value)} {H : Hp} {O : List A2} {ops : Array Oper} {rest : List Oper} {T : TypeId}
variable {α : Type} {c : Cd α}
theorem V8(n:Nat)(v:Value):(List.replicate n v).toArray.size=n:=by rw[List.size_toArray,List.length_replicate]
theorem SH.BU{w:World}(hs:SH w H O){i size m:Nat}{v:Value}{e:TypeId}{xs:List Value}(hi:O[i]?=some (.row v e size m xs)):v.oneCell'=true:=by
 rcases(hs.Lk hi).1 with⟨rfl,_⟩|⟨a,cap,rfl,_⟩<;>rfl
theorem Aa.BU{i size m:Nat}{v:Value}{e:TypeId}{xs:List Value}(hi:O[i]?=some (.row v e size m xs))(k:v.oneCell'=true→Aa P ops Q rest n L H O):Aa P ops Q rest n L H O:=fun a w hf hs=>k (hs.BU hi) a w hf hs
theorem Bc.UI{op:Op}{E:Operand→Option Value}{R:Value→Hp→List A2→Prop}(r:Nat)(h:Bc P op T E H O R)(hr:∀v H' O',R v H' O'→∃e size m xs,O'[r]?=some (.row v e size m xs)):Bc P op T E H O (fun v H' O'=>R v H' O'∧v.oneCell'=true):=
 fun a w o next Q h1 h2 h3 h4 h5=>h a w o next Q h1 h2 h3 h4 fun v w' H' O' k1 k2 k3=>by
  obtain⟨e,size,m,xs,hi⟩:=hr v H' O' k2
  exact h5 v w' H' O' k1 ⟨k2,k3.BU hi⟩ k3
theorem Ap.Vo{l:List α}{cs:Array Value}{k:Nat}(h:Ap c H l cs.toList)(hs:cs.size=k):k=l.length*c.sz:=by
 have:=h.len;simp at this;omega
theorem Aa.Zc{l:List α}{cs:Array Value}{k B:Nat}{pos:String}{af:Array Edge}{px py:Operand}{t e:TypeId}{u z:Value}{bytes:Nat}(q:Nat)(y:α)(i:Int)(hL:Ap c H l cs.toList)(hsz:cs.size=k)(hg:0≤i∧i<(l.length:Nat))
  (hx:ev L px=some (ptr B (i.toNat*1))) (hy:ev L py=some u) (hu:u.oneCell'=true) (hti:TI P t 1 bytes z) (hi:O[q]?=some (.Az B (.cells cs e (0,0)))) (hlay:c.Lay H y [u])
  (kk:∀cs',(Ap c H (l.set i.toNat y) cs'.toList∧cs'.size=k)→Aa P ops Q rest n L H (O.set q (.Az B (.cells cs' e (0,0))))):
  Aa P ops Q ({dst:=none,op:= .store t px py,type:=T,pos,after:=af,guard:=none} ::rest) n L H O:=by
 have h1:c.sz=1:=by rw[←c.len hlay];rfl
 have hlen:=hL.len
 rw[h1]at hlen
 simp only[Nat.mul_one]at hx
 have hlt:i.toNat<cs.size:=by simp at hlen;omega
 refine Aa.Dc (i:=q) hx hy hu hti hi hlt (kk _ ⟨?_,by simp[hsz]⟩)
 have h2:=hL.set (i:=i.toNat) (by omega) hlay
 rw[h1,Nat.mul_one,M7 _ _ _ (by simpa using hlt)]at h2
 simpa using h2
end
def placesOf(P:Program)(t:TypeId):Option (List (Nat×Nat)):=
 match P.underlying t with
 |some (.struct fs)=>fs.toList.mapM fun f=>(P.info? f.type).map fun i=>(f.offset,i.size)
 |_=>none
theorem run_places{P:Program} :∀(l:List Field) (ps:List (Nat×Nat)),(l.mapM fun f=>(P.info? f.type).map fun i=>(f.offset,i.size))=some ps→
  ∀w,(l.mapM fun f=>do pure (f.offset,←Go.sizeOf f.type):Sem (List (Nat×Nat))).run P w= .ok ps w
 | [],ps,h,w=>by simp at h;subst h;simp
 |f::l,ps,h,w=>by
  rw[List.mapM_cons]at h
  cases hi:P.info? f.type with
  |none=>simp[hi]at h
  |some i=>
   cases hl:(l.mapM fun f=>(P.info? f.type).map fun i=>(f.offset,i.size))with
   |none=>simp[hi,hl]at h
   |some qs=>
    simp[hi,hl]at h
    subst h
    have ih:=run_places l qs hl w
    have hsz:(Go.sizeOf f.type).run P w= .ok i.size w:=by simp[Go.sizeOf,typeInfo,hi]
    rw[List.mapM_cons]
    simp only[Sem.run_bind,hsz,Result.andThen_ok,Sem.run_pure,ih]
def Ku(place:Nat→Option (Nat×Nat))(cells:Array Value):List (Nat×Array Value)→Option (Array Value)
 | []=>some cells
 |(i,v)::rest=>
  match place i with
  |none=>none
  |some (off,size)=>
   if v.size≠size||off+v.size>cells.size then none
   else Ku place (v.zipIdx.foldl (fun cs (c,j)=>cs.setIfInBounds (off+j) c) cells) rest
theorem fill_eq(place:Nat→Option (Nat×Nat)):∀(vs:List (Nat×Value)) (cells:Array Value),Instr.fill place cells vs=Ku place cells (vs.map fun p=>(p.1,p.2.cells))
 | [],_=>rfl
 |(i,v)::rest,cells=>by
  simp only[Instr.fill,List.map_cons,Ku]
  cases place i with
  |none=>rfl
  |some q=>
   obtain⟨off,size⟩:=q
   simp only
   split
   ·rfl
   ·exact fill_eq place rest _
theorem E8{v:Value}(h:v.oneCell'=true):v.cells= #[v]:=by cases v<;>simp_all [Value.cells,Value.oneCell']
theorem Ef{v:Value}(h:v.oneCell'=true):v.cells.toList=[v]:=by rw[E8 h]
abbrev VC(vs:List (Nat×Value))(vcs:List (Nat×Array Value)):Prop:=vs.map (fun p=>(p.1,p.2.cells))=vcs
theorem A8:VC [] []:=rfl
theorem AK{i:Nat}{v:Value}{cs:Array Value}{vs:List (Nat×Value)}{vcs:List (Nat×Array Value)}(h:v.cells=cs)(k:VC vs vcs):VC ((i,v)::vs) ((i,cs)::vcs):=by
 unfold VC at*;rw[List.map_cons,k,h]
section
variable {P : Program} {T : TypeId} {E : Operand → Option Value} {H : Hp} {O : List A2}
theorem Ab.Bj{t:TypeId}{size bytes:Nat}{z:Value}{zs cs:Array Value}{ps:List (Nat×Operand)}{vs:List (Nat×Value)}{places:List (Nat×Nat)}(hp:placesOf P t=some places)(hz:TI P t size bytes z)(hzc:z.cells=zs)
  {vcs:List (Nat×Array Value)} (hps:OP E ps=some vs) (hv:VC vs vcs) (hf':Ku (places[·]?) zs vcs=some cs):Ab P (.build t ps.toArray) T E H O (.agg cs):=by
 have hf:Instr.fill (places[·]?) zs vs=some cs:=by rw[fill_eq,hv];exact hf'
 unfold placesOf at hp
 split at hp
 ·rename_i fs hu
  refine Ab.build (places:=places.toArray) hu hz hzc (fun w=>?_) hps (by simpa using hf)
  have h:=run_places fs.toList places hp w
  rw[Array.mapM_eq_mapM_toList]
  show((List.mapM (fun f:Field=>(do pure (f.offset,←Go.sizeOf f.type):Sem (Nat×Nat))) fs.toList)>>=fun l=>pure l.toArray:Sem (Array (Nat×Nat))).run P w=_
  rw[Sem.run_bind,h]
  simp
 ·cases hp
theorem Ab.VK{t e:TypeId}{len size bytes esize ebytes:Nat}{z ez:Value}{zs cs:Array Value}{ps:List (Nat×Operand)}{vs:List (Nat×Value)}{vcs:List (Nat×Array Value)}(ht:P.underlying t=some (.array len e))(hz:TI P t size bytes z)(hze:TI P e esize ebytes ez)(hzc:z.cells=zs)
  (hps:OP E ps=some vs) (hv:VC vs vcs) (hf:Ku (fun i=>some (i*esize,esize)) zs vcs=some cs):Ab P (.build t ps.toArray) T E H O (.agg cs):=
 Ab.Ki ht hz hze hzc hps (by rw[fill_eq,hv];exact hf)
end
section
variable {P : Program} {Q : Exit → Act → World → Prop} {n : Nat} {L : List (Nat × Value)} {H : Hp} {O : List A2} {ops : Array Oper} {rest : List Oper} {T : TypeId}
variable {α : Type} {c : Cd α}
theorem Aa.Ug{d:Tmp}{pos:String}{af:Array Edge}{t e:TypeId}{l:List α}{bytes:Nat}{z:Value}{zs cs:Array Value}{ps:List (Nat×Operand)}{vs:List (Nat×Value)}{vcs:List (Nat×Array Value)}{len:Nat}(ht:P.underlying t=some (.slice e))(hz:TI P e c.sz bytes z)(hzc:z.cells=zs)
  (hlen:Nat.ble (len*c.sz) 16777216=true) (h0:Nat.blt 0 (len*c.sz)=true) (hps:OP (ev L) ps=some vs) (hv:VC vs vcs) (hf:Ku (fun i=>some (i*c.sz,c.sz)) ((Array.range (len*c.sz)).map (zs[· %zs.size]!)) vcs=some cs) (hll:l.length=len) (hlay:Ap c H l cs.toList) (hd:Nat.blt d n=true)
  (k:∀v' xs,Ap c H l xs→Aa P ops Q rest n ((d,v')::L) H (.row v' e c.sz l.length xs::O)):
  Aa P ops Q ({dst:=some d,op:= .buildSlice t len ps.toArray,type:=T,pos,after:=af,guard:=none} ::rest) n L H O:=
 Aa.VJ ht hz hzc hlen h0 hps (by rw[fill_eq,hv];exact hf) hll hlay hd k
end
end Go.GK
namespace Go.GK
def Bh:Value→Nat
 | .pointer (some a)=>a.block
 |_=>0
def Bl(v:Value)(k:Nat):Value:=match v with
 | .agg cs=>cs.getD k undef
 | .tuple vs=>vs.getD k undef
 |_=>undef
def Se(L:List (Nat×Value))(lo:List Nat):Operand→Option Value
 | .tmp t=>match Cp lo t with
  |true=>lk L t
  |false=>none
 | .const v=>some v
 | .global g=>some (.pointer (some ⟨g,0,none⟩))
 | .func f=>some (.func (.func f) #[] #[])
theorem I_{L:List (Nat×Value)}{lo:List Nat}{a:Act}(h:∀t∈lo,∀v,lk L t=some v→a.tmps.getD t undef=v)(x:Operand)(u:Value)(hx:Se L lo x=some u):a.eval x=u:=by
 cases x with
 |tmp t=>
  simp only[Se]at hx
  split at hx
  ·rename_i hm;exact h t (ER.1 hm) u hx
  ·cases hx
 |const u=>simpa [Se,Act.eval]using hx
 |global g=>simpa [Se,Act.eval]using hx
 |func f=>simpa [Se,Act.eval]using hx
section
variable {P : Program} {Q : Exit → Act → World → Prop} {n N i : Nat} {H : Hp} {O : List A2} {ops : Array Oper} {os : List Oper} {an : IB} {aS : List IB} {LL : Rec → List (Nat × Value)} {XX : Rec → List A2} {FF : List (Nat × (Rec → Hp → Prop))}
def Ig(an:IB)(i:Nat)(FF:List (Nat×(Rec→Hp→Prop)))(ρ:Rec)(H':Hp):Prop:= ∀m,Cp an.ms m=true→Nat.beq m i=false→V_ FF ρ H' m
def KB(an:IB)(XX:Rec→List A2)(O:List A2)(ρ:Rec)(Y:List A2):Prop:= ∀r x,(Cp an.rd r||Cp an.wr r)=true→(XX ρ)[r]?=some x→(Y++O)[r]?=some x
theorem Af.runK{id:Nat}{l:List Oper}{L:List (Nat×Value)}(k:Nat)(A:List IB)(hm:P.follows .mixedOrders=true)(hN:(O.take k).length=k)(hOK:SL l A k=true)
  (h:Af P l.toArray Q n k H (O.drop k) 0 l A (fun _=>L) (fun _=>O.take k) []):Wp P (.region id l.toArray true) Q n L H O:=by
 have:=Af.run (id:=id) A hm hN hOK h
 rwa [List.take_append_drop]at this
theorem Af.done(h:∀H' ρ,H.le H'→(∀m,V_ FF ρ H' m)→At Q .normal n (LL ρ) H' (XX ρ++O)):Af P ops Q n N H O i [] aS LL XX FF:=h
theorem UX{Y:List A2}{r:Nat}{x:A2}(h:r<Y.length):(Y++O).set r x=Y.set r x++O:=by rw[List.set_append_left _ _ h]
theorem E6{ρ:Rec}{H':Hp}(h:∀m,m∈an.ms→m≠i→V_ FF ρ H' m):Ig an i FF ρ H':=fun m hm hne=>h m (ER.1 hm) (Nat.ne_of_beq_eq_false hne)
theorem F9{ρ:Rec}{Y:List A2}(h:∀r,(Cp an.rd r=true∨Cp an.wr r=true)→∀x,(XX ρ)[r]?=some x→Y[r]?=some x):KB an XX O ρ Y:=fun r x hr hx=>by
 have hr':Cp an.rd r=true∨Cp an.wr r=true:=by simpa using hr
 have hy:=h r hr' x hx
 rw[List.getElem?_append_left (List.getElem?_eq_some_iff.1 hy).1];exact hy
theorem MB{val:Rec→Value}(hi:Cp an.ms i=false)(st:∀ρ,val (mask an.ms ρ)=val ρ)(ρ:Rec)(v:Value):val (HF ρ i v)=val ρ:=by
 rw[←st (HF ρ i v),←st ρ]
 exact congrArg val (I4 fun m hm=>Ps fun e=>by subst e;rw[ER.2 hm]at hi;cases hi)
theorem Af.op{d:Tmp}{op:Op}{T:TypeId}{pos:String}{af:Array Edge}{val:Rec→Value}(hw:an.wr=[])(hi:Cp an.ms i=false)(st:∀ρ,val (mask an.ms ρ)=val ρ)
  (h:∀H' ρ Y,H.le H'→Ig an i FF ρ H'→KB an XX O ρ Y→Ab P op T (Se (LL ρ) (looks op)) H' (Y++O) (val ρ)) (hd:Nat.blt d n=true)
  (k:Af P ops Q n N H O (i+1) os aS (fun ρ=>(d,val ρ)::LL ρ) XX ((i,fun _ _=>True)::FF)):
  Af P ops Q n N H O i ({dst:=some d,op,type:=T,pos,after:=af,guard:=none} ::os) (an::aS) LL XX FF:=by
 refine⟨fun ρ=>⟨val ρ,[],fun _=>True⟩,⟨fun d' hd'=>by simp at hd';subst hd';simpa using hd,fun ρ=>by rw[st],fun _ _ _ _ h=>h,fun H' ρ Y a w h1 h2 h3 h4 h5 h6 h7 h8 K Q hK=>?_⟩,fun ρ=>by rw[hw];rfl,k⟩
 rw[if_pos (by simp[Region.wanted])]
 rw[E4]at h4
 refine Oper.DF (h H' ρ Y h1 (E6 h2) (F9 h5) a w _ rf rf (I_ h4) h6) h6 fun w' hw'=>?_
 exact hK _ w' H' Y (Hp.le.refl _) hw' h3 (fun _ _=>rfl) (fun r x hr=>by rw[hw]at hr;cases hr) trivial fun _=>MB hi st ρ _
theorem Mt{a:Act}{ρ:Rec}{j t:Nat}{b:Bool}{d:Option Tmp}{op:Op}{T:TypeId}{pos:String}{af:Array Edge}(hj:Bw ops j=some t)(hb:lk (LL ρ) t=some (.bool b))
  (h4:∀t∈Oper.looksAt ops {dst:=d,op,type:=T,pos,after:=af,guard:=some (j,b)},∀v,lk (LL ρ) t=some v→a.tmps.getD t undef=v):yielded ops a.tmps j=some b:=by
 refine E0 hj (h4 t ?_ _ hb)
 have hj2:=hj
 unfold Bw at hj2
 simp[Oper.looksAt,hj2]
theorem Af.AQ{d t j:Nat}{b:Bool}{op:Op}{T:TypeId}{pos:String}{af:Array Edge}{val:Rec→Value}(hj:Bw ops j=some t)(hb:∀ρ,lk (LL ρ) t=some (.bool b))(hw:an.wr=[])(hi:Cp an.ms i=false)(st:∀ρ,val (mask an.ms ρ)=val ρ)
  (h:∀H' ρ Y,H.le H'→Ig an i FF ρ H'→KB an XX O ρ Y→Ab P op T (Se (LL ρ) (looks op)) H' (Y++O) (val ρ)) (hd:Nat.blt d n=true)
  (k:Af P ops Q n N H O (i+1) os aS (fun ρ=>(d,val ρ)::LL ρ) XX ((i,fun _ _=>True)::FF)):
  Af P ops Q n N H O i ({dst:=some d,op,type:=T,pos,after:=af,guard:=some (j,b)} ::os) (an::aS) LL XX FF:=by
 refine⟨fun ρ=>⟨val ρ,[],fun _=>True⟩,⟨fun d' hd'=>by simp at hd';subst hd';simpa using hd,fun ρ=>by rw[st],fun _ _ _ _ h=>h,fun H' ρ Y a w h1 h2 h3 h4 h5 h6 h7 h8 K Q hK=>?_⟩,fun ρ=>by rw[hw];rfl,k⟩
 rw[if_pos (by simp[Region.wanted,Mt hj (hb ρ) h4])]
 refine Oper.DF (h H' ρ Y h1 (E6 h2) (F9 h5) a w _ rf rf (I_ fun t ht=>h4 t (Ka ht)) h6) h6 fun w' hw'=>?_
 exact hK _ w' H' Y (Hp.le.refl _) hw' h3 (fun _ _=>rfl) (fun r x hr=>by rw[hw]at hr;cases hr) trivial fun _=>MB hi st ρ _
theorem Af.Ak{d:Option Tmp}{t j:Nat}{b c:Bool}{op:Op}{T:TypeId}{pos:String}{af:Array Edge}(hj:Bw ops j=some t)(hb:∀ρ,lk (LL ρ) t=some (.bool c))(hne:(c==b)=false)(hw:an.wr=[])(hd:∀d',d=some d'→d'<n)
  (k:Af P ops Q n N H O (i+1) os aS (fun ρ=>U5 d undef (LL ρ)) XX ((i,fun _ _=>True)::FF)):
  Af P ops Q n N H O i ({dst:=d,op,type:=T,pos,after:=af,guard:=some (j,b)} ::os) (an::aS) LL XX FF:=by
 refine⟨fun ρ=>⟨undef,[],fun _=>True⟩,⟨hd,fun ρ=>rfl,fun _ _ _ _ h=>h,fun H' ρ Y a w h1 h2 h3 h4 h5 h6 h7 h8 K Q hK=>?_⟩,fun ρ=>by rw[hw];rfl,k⟩
 have hy:yielded ops a.tmps j=some c:=E0 hj (h4 t (by have hj2:=hj;unfold Bw at hj2;simp[Oper.looksAt,hj2]) _ (hb ρ))
 rw[if_neg (by simp only[Region.wanted,hy];simpa using hne)]
 exact hK _ w H' Y (Hp.le.refl _) h6 h3 (fun _ _=>rfl) (fun r x hr=>by rw[hw]at hr;cases hr) trivial fun _=>rfl
theorem Af.Xy{d:Tmp}{op:Op}{T:TypeId}{pos:String}{af:Array Edge}{val:Rec→Value}{res:Rec→A2}(r:Nat)(hw:an.wr=[r])(hr:Nat.blt r N=true)(stv:∀ρ,val (mask an.ms ρ)=val ρ)(str:∀ρ,res (mask an.ms ρ)=res ρ)
  (h:∀H' ρ Y,H.le H'→Ig an i FF ρ H'→KB an XX O ρ Y→Bc P op T (Se (LL ρ) (looks op)) H' (Y++O) (fun v H'' O''=>H''=H'∧O''=(Y++O).set r (res (HF ρ i v))∧val (HF ρ i v)=v)) (hd:Nat.blt d n=true)
  (k:Af P ops Q n N H O (i+1) os aS (fun ρ=>(d,val ρ)::LL ρ) (fun ρ=>(XX ρ).set r (res ρ)) ((i,fun _ _=>True)::FF)):
  Af P ops Q n N H O i ({dst:=some d,op,type:=T,pos,after:=af,guard:=none} ::os) (an::aS) LL XX FF:=by
 refine⟨fun ρ=>⟨val ρ,[(r,res ρ)],fun _=>True⟩,⟨fun d' hd'=>by simp at hd';subst hd';simpa using hd,fun ρ=>by rw[stv,str],fun _ _ _ _ h=>h,fun H' ρ Y a w h1 h2 h3 h4 h5 h6 h7 h8 K Q hK=>?_⟩,fun ρ=>by rw[hw];rfl,k⟩
 have hr':r<N:=by simpa using hr
 rw[if_pos (by simp[Region.wanted])]
 rw[E4]at h4
 refine h H' ρ Y h1 (E6 h2) (F9 h5) a w _ K Q rf rf (I_ h4) h6 ?_
 rintro v w' H'' O'' hle ⟨rfl,rfl,k3⟩ hw'
 rw[UX (by omega)]at hw'
 refine hK v w' _ _ hle hw' (by simp[h3]) (fun r' hr'=>?_) (fun r' x _ hx=>?_) trivial fun _=>k3
 ·rw[hw]at hr'
  have hne:r≠r':=fun e=>by subst e;simp[Cp]at hr'
  rw[List.getElem?_set_ne hne]
 ·simp only[QC]at hx
  split at hx
  ·rename_i hb
   have:=Nat.eq_of_beq_eq_true hb
   subst this
   injection hx with hx
   subst hx
   simp[h3,hr']
  ·cases hx
theorem Af.Fz{d:Tmp}{op:Op}{T:TypeId}{pos:String}{af:Array Edge}{res:Rec→A2}(r:Nat)(hw:an.wr=[r])(hr:Nat.blt r N=true)(hm:Cp an.ms i=true)(str:∀ρ,res (mask an.ms ρ)=res ρ)
  (h:∀H' ρ Y,H.le H'→Ig an i FF ρ H'→KB an XX O ρ Y→Bc P op T (Se (LL ρ) (looks op)) H' (Y++O) (fun v H'' O''=>H''=H'∧O''=(Y++O).set r (res (HF ρ i v))∧HF ρ i v i=v)) (hd:Nat.blt d n=true)
  (hrow:∀ρ,∃e size m xs,res ρ= .row (ρ i) e size m xs)
  (k:Af P ops Q n N H O (i+1) os aS (fun ρ=>(d,ρ i)::LL ρ) (fun ρ=>(XX ρ).set r (res ρ)) ((i,fun ρ _=>(ρ i).oneCell'=true)::FF)):
  Af P ops Q n N H O i ({dst:=some d,op,type:=T,pos,after:=af,guard:=none} ::os) (an::aS) LL XX FF:=by
 have hmi:∀ρ:Rec,mask an.ms ρ i=ρ i:=fun ρ=>by unfold mask;rw[show an.ms.any (Nat.beq i)=true from hm]
 refine⟨fun ρ=>⟨ρ i,[(r,res ρ)],fun _=>(ρ i).oneCell'=true⟩,⟨fun d' hd'=>by simp at hd';subst hd';simpa using hd,fun ρ=>by rw[hmi,str],fun _ _ _ _ h=>h,fun H' ρ Y a w h1 h2 h3 h4 h5 h6 h7 h8 K Q hK=>?_⟩,fun ρ=>by rw[hw];rfl,k⟩
 have hr':r<N:=by simpa using hr
 rw[if_pos (by simp[Region.wanted])]
 rw[E4]at h4
 refine(Bc.UI r (h H' ρ Y h1 (E6 h2) (F9 h5)) (fun v H'' O'' ⟨_,e2,e3⟩=>?_)) a w _ K Q rf rf (I_ h4) h6 ?_
 ·obtain⟨e,size,m,xs,he⟩:=hrow (HF ρ i v)
  refine⟨e,size,m,xs,?_⟩
  rw[e2,he,e3,UX (by omega),List.getElem?_append_left (by simp[h3,hr']),List.getElem?_set_self (by omega)]
 ·rintro v w' H'' O'' hle ⟨⟨rfl,rfl,k3⟩,k4⟩ hw'
  rw[UX (by omega)]at hw'
  refine hK v w' _ _ hle hw' (by simp[h3]) (fun r' hr'=>?_) (fun r' x _ hx=>?_) (by show(HF ρ i v i).oneCell'=true;rw[k3];exact k4) fun _=>k3
  ·rw[hw]at hr'
   have hne:r≠r':=fun e=>by subst e;simp[Cp]at hr'
   rw[List.getElem?_set_ne hne]
  ·simp only[QC]at hx
   split at hx
   ·rename_i hb
    have:=Nat.eq_of_beq_eq_true hb
    subst this
    injection hx with hx
    subst hx
    simp[h3,hr']
   ·cases hx
theorem Af.GY{op:Op}{T:TypeId}{pos:String}{af:Array Edge}{res:Rec→A2}(r:Nat)(hw:an.wr=[r])(hr:Nat.blt r N=true)(hi:Cp an.ms i=false)(str:∀ρ,res (mask an.ms ρ)=res ρ)
  (h:∀H' ρ Y,H.le H'→Ig an i FF ρ H'→KB an XX O ρ Y→Bc P op T (Se (LL ρ) (looks op)) H' (Y++O) (fun _ H'' O''=>H''=H'∧O''=(Y++O).set r (res ρ)))
  (k:Af P ops Q n N H O (i+1) os aS LL (fun ρ=>(XX ρ).set r (res ρ)) ((i,fun _ _=>True)::FF)):
  Af P ops Q n N H O i ({dst:=none,op,type:=T,pos,after:=af,guard:=none} ::os) (an::aS) LL XX FF:=by
 have e:∀ρ v,res (HF ρ i v)=res ρ:=fun ρ v=>by
  rw[←str (HF ρ i v),←str ρ]
  exact congrArg res (I4 fun m hm=>Ps fun e=>by subst e;rw[ER.2 hm]at hi;cases hi)
 refine⟨fun ρ=>⟨undef,[(r,res ρ)],fun _=>True⟩,⟨fun d' hd'=>by simp at hd',fun ρ=>by rw[str],fun _ _ _ _ h=>h,fun H' ρ Y a w h1 h2 h3 h4 h5 h6 h7 h8 K Q hK=>?_⟩,fun ρ=>by rw[hw];rfl,k⟩
 have hr':r<N:=by simpa using hr
 rw[if_pos (by simp[Region.wanted])]
 rw[E4]at h4
 refine h H' ρ Y h1 (E6 h2) (F9 h5) a w _ K Q rf rf (I_ h4) h6 ?_
 rintro v w' H'' O'' hle ⟨rfl,rfl⟩ hw'
 rw[UX (by omega)]at hw'
 refine hK v w' _ _ hle hw' (by simp[h3]) (fun r' hr'=>?_) (fun r' x _ hx=>?_) trivial fun h=>by cases h
 ·rw[hw]at hr'
  have hne:r≠r':=fun e=>by subst e;simp[Cp]at hr'
  rw[List.getElem?_set_ne hne]
 ·simp only[QC]at hx
  split at hx
  ·rename_i hb
   have:=Nat.eq_of_beq_eq_true hb
   subst this
   injection hx with hx
   subst hx
   rw[e]
   simp[h3,hr']
  ·cases hx
theorem Af.Mk{d:Tmp}{op:Op}{T:TypeId}{pos:String}{af:Array Edge}{val:Rec→Value}{fact:Rec→Hp→Prop}(hw:an.wr=[])(stv:∀ρ,val (mask an.ms ρ)=val ρ)(stf:∀ρ,fact (mask an.ms ρ)=fact ρ)(mono:∀ρ H' H'',H'.le H''→fact ρ H'→fact ρ H'')
  (h:∀H' ρ Y,H.le H'→Ig an i FF ρ H'→KB an XX O ρ Y→Bc P op T (Se (LL ρ) (looks op)) H' (Y++O) (fun v H'' O''=>(Y++O)=O''∧fact (HF ρ i v) H''∧val (HF ρ i v)=v)) (hd:Nat.blt d n=true)
  (k:Af P ops Q n N H O (i+1) os aS (fun ρ=>(d,val ρ)::LL ρ) XX ((i,fact)::FF)):
  Af P ops Q n N H O i ({dst:=some d,op,type:=T,pos,after:=af,guard:=none} ::os) (an::aS) LL XX FF:=by
 refine⟨fun ρ=>⟨val ρ,[],fact ρ⟩,⟨fun d' hd'=>by simp at hd';subst hd';simpa using hd,fun ρ=>by rw[stv,stf],mono,fun H' ρ Y a w h1 h2 h3 h4 h5 h6 h7 h8 K Q hK=>?_⟩,fun ρ=>by rw[hw];rfl,k⟩
 rw[if_pos (by simp[Region.wanted])]
 rw[E4]at h4
 refine h H' ρ Y h1 (E6 h2) (F9 h5) a w _ K Q rf rf (I_ h4) h6 ?_
 rintro v w' H'' O'' hle ⟨rfl,k2,k3⟩ hw'
 exact hK v w' _ Y hle hw' h3 (fun _ _=>rfl) (fun r x hr=>by rw[hw]at hr;cases hr) k2 fun _=>k3
theorem Af.Oo{d t j:Nat}{b:Bool}{op:Op}{T:TypeId}{pos:String}{af:Array Edge}{val:Rec→Value}{fact:Rec→Hp→Prop}(hj:Bw ops j=some t)(hb:∀ρ,lk (LL ρ) t=some (.bool b))(hw:an.wr=[])(stv:∀ρ,val (mask an.ms ρ)=val ρ)(stf:∀ρ,fact (mask an.ms ρ)=fact ρ)(mono:∀ρ H' H'',H'.le H''→fact ρ H'→fact ρ H'')
  (h:∀H' ρ Y,H.le H'→Ig an i FF ρ H'→KB an XX O ρ Y→Bc P op T (Se (LL ρ) (looks op)) H' (Y++O) (fun v H'' O''=>(Y++O)=O''∧fact (HF ρ i v) H''∧val (HF ρ i v)=v)) (hd:Nat.blt d n=true)
  (k:Af P ops Q n N H O (i+1) os aS (fun ρ=>(d,val ρ)::LL ρ) XX ((i,fact)::FF)):
  Af P ops Q n N H O i ({dst:=some d,op,type:=T,pos,after:=af,guard:=some (j,b)} ::os) (an::aS) LL XX FF:=by
 refine⟨fun ρ=>⟨val ρ,[],fact ρ⟩,⟨fun d' hd'=>by simp at hd';subst hd';simpa using hd,fun ρ=>by rw[stv,stf],mono,fun H' ρ Y a w h1 h2 h3 h4 h5 h6 h7 h8 K Q hK=>?_⟩,fun ρ=>by rw[hw];rfl,k⟩
 rw[if_pos (by simp[Region.wanted,Mt hj (hb ρ) h4])]
 refine h H' ρ Y h1 (E6 h2) (F9 h5) a w _ K Q rf rf (I_ fun t ht=>h4 t (Ka ht)) h6 ?_
 rintro v w' H'' O'' hle ⟨rfl,k2,k3⟩ hw'
 exact hK v w' _ Y hle hw' h3 (fun _ _=>rfl) (fun r x hr=>by rw[hw]at hr;cases hr) k2 fun _=>k3
end
section
variable {P : Program} {T : TypeId} {E : Operand → Option Value} {H : Hp} {O : List A2} {ρ : Rec} {i : Nat}
theorem Bc.Mb{t:TypeId}{size bytes:Nat}{z:Value}{cs:Array Value}(r:Nat)(hz:TI P t size bytes z)(hc:z.cells=cs)(hi:O[r]?=some .emp):
  Bc P (.alloc t) T E H O (fun v H' O'=>H'=H∧O'=O.set r (.Az (Bh (HF ρ i v i)) (.cells cs t (0,0)))∧ptr (Bh (HF ρ i v i)) 0=v):= .AR fun a w o ho _ he hs=>by
 refine⟨ptr w.heap.size 0,w.alloc (.cells cs t),H,O.set r (.Az w.heap.size (.cells cs t)),?_,Hp.le.refl H,⟨rf,by rw[GP];rfl,by rw[GP];rfl⟩,?_⟩
 ·subst hc
  simp[execOp,ho,Instr.alloc,hz.zeroValue,newVar,newRow,ptr]
 ·exact hs.set hi (World.grownBy_alloc w _ _) (heap_alloc_new w _) (fun b hb=> .inr (by simp only[A2.block,Option.some.injEq]at hb;omega))
theorem Bc.Uf{t e:TypeId}{len size bytes:Nat}{z:Value}{zs cs:Array Value}{ps:List (Nat×Operand)}{vs:List (Nat×Value)}(r:Nat)(ht:P.underlying t=some (.slice e))(hz:TI P e size bytes z)(hzc:z.cells=zs)
  (hlen:Nat.ble (len*size) 16777216=true) (h0:Nat.blt 0 (len*size)=true) (hps:OP E ps=some vs) (hf:Instr.fill (fun i=>some (i*size,size)) ((Array.range (len*size)).map (zs[· %zs.size]!)) vs=some cs) (hcs:cs.size=len*size) (hi:O[r]?=some .emp):
  Bc P (.buildSlice t len ps.toArray) T E H O (fun v H' O'=>H'=H∧O'=O.set r (.row (HF ρ i v i) e size len cs.toList)∧HF ρ i v i=v):= .AR fun a w o ho _ he hs=>by
 have h1:(ps.toArray.map fun(i,x)=>(i,a.eval x)).toList=vs:=by simpa using HZ he hps
 have hlen':¬len*size>2^24:=by have:=Nat.le_of_ble_eq_true hlen;omega
 have h0':¬len*size=0:=by simp at h0;omega
 refine⟨.slice (some ⟨w.heap.size,0,none⟩) len len,w.alloc (.cells cs e),H,_,?_,Hp.le.refl H,⟨rf,by rw[GP],by rw[GP]⟩,hs.set hi (World.grownBy_alloc w _ _) ?_ (fun b hb=> .inr (by simp[A2.block,Value.ownBlock]at hb;omega))⟩
 ·simp only[execOp,ho,Instr.buildSlice,Sem.run_bind,BC ht,Result.andThen_ok,hz.sizeOf,if_neg hlen',if_neg h0',hz.zeroValue,hzc,Sem.run_pure,h1,hf]
  simp[newRow]
 ·refine⟨by simpa using hcs, .inr ⟨w.heap.size,len,cs,rf,Nat.zero_le _,heap_alloc_new w _,Nat.le_refl _,?_,hcs,?_⟩⟩
  ·have h2:=Nat.le_of_ble_eq_true hlen
   have h3:len≤len*size:=Nat.le_mul_of_pos_right _ (Nat.pos_of_ne_zero fun h=>by subst h;simp at h0')
   simp only[maxLen];omega
  ·rw[List.take_of_length_le];simp[hcs]
theorem Bc.VH{t e:TypeId}{len size bytes:Nat}{z:Value}{zs cs:Array Value}{ps:List (Nat×Operand)}{vs:List (Nat×Value)}{vcs:List (Nat×Array Value)}(r:Nat)(ht:P.underlying t=some (.slice e))(hz:TI P e size bytes z)(hzc:z.cells=zs)
  (hlen:Nat.ble (len*size) 16777216=true) (h0:Nat.blt 0 (len*size)=true) (hps:OP E ps=some vs) (hv:VC vs vcs) (hf:Ku (fun i=>some (i*size,size)) ((Array.range (len*size)).map (zs[· %zs.size]!)) vcs=some cs) (hcs:cs.size=len*size) (hi:O[r]?=some .emp):
  Bc P (.buildSlice t len ps.toArray) T E H O (fun v H' O'=>H'=H∧O'=O.set r (.row (HF ρ i v i) e size len cs.toList)∧HF ρ i v i=v):=
 Bc.Uf r ht hz hzc hlen h0 hps (by rw[fill_eq,hv];exact hf) hcs hi
theorem Bc.DM{t e:TypeId}{size bytes:Nat}{z v:Value}{cs:List Value}{x:Operand}(r:Nat)(ht:P.underlying t=some (.slice e))(hz:TI P e size bytes z)(hlen:Nat.ble size 16777216=true)(h0:Nat.blt 0 size=true)(hx:E x=some v)(hc:v.cells.toList=cs)(hcs:cs.length=size)(hi:O[r]?=some .emp):
  Bc P (.buildSlice t 1 #[(0,x)]) T E H O (fun v H' O'=>H'=H∧O'=O.set r (.row (HF ρ i v i) e size 1 cs)∧HF ρ i v i=v):=by
 subst hc
 refine Bc.Uf (zs:=z.cells) (cs:=v.cells) (vs:=[(0,v)]) (ps:=[(0,x)]) r ht hz rf (by simpa using hlen) (by simpa using h0) (by simp[OP,hx]) ?_ (by simpa using hcs) hi
 exact OM (by simp) (by simpa using hcs)
theorem Bc.KE{s x:Operand}{t e e2:TypeId}{size bytes m m':Nat}{z v y:Value}{xs ys:List Value}(r j:Nat)(ht:P.underlying t=some (.slice e))(hz:TI P e size bytes z)(hzs:z.cells.size=size)(h0:Nat.blt 0 size=true)
  (hs:E s=some v) (hx:E x=some y) (hi:O[r]?=some (.row v e size m xs)) (hj:O[j]?=some (.row y e2 size m' ys)) (h1:∀u∈ys,u.oneCell'=true) (hb:Nat.ble bytes 64=true) (hl:m+m'≤AJ):
  Bc P (.call {callee:= .builtin .append,args:= #[s,x],argTypes:= #[t,t]}) T E H O (fun v' H' O'=>H'=H∧O'=O.set r (.row (HF ρ i v' i) e size (m+m') (xs++ys))∧HF ρ i v' i=v'):=by
 have hb':=Nat.le_of_ble_eq_true hb
 have hbm:(m+m')*bytes≤1099511627776*64:=Nat.mul_le_mul hl hb'
 refine(Bc.append ht hz hzs (by simpa using h0) hs hx hi (fun w hs=>hs.J1 hj) h1 (by omega) (by simp only[AJ]at hl;omega)).mono ?_
 rintro v' H' O' ⟨rfl,rfl⟩
 exact⟨rf,by rw[GP],by rw[GP]⟩
theorem Bc.P'{x y:Operand}{t:TypeId}{v z:Value}{r B off bytes size:Nat}{cs cs':Array Value}{e:TypeId}{vs:List Value}(hx:E x=some (ptr B off))(hy:E y=some v)(hv:v.cells.toList=vs)(hsz:TI P t size bytes z)(hs:vs.length=size)
  (h1:∀u∈vs,u.oneCell'=true) (hi:O[r]?=some (.Az B (.cells cs e (0,0)))) (hfit:Nat.ble (off+vs.length) cs.size=true) (hcs:(E' cs.toList off vs).toArray=cs'):
  Bc P (.store t x y) T E H O (fun _ H' O'=>H'=H∧O'=O.set r (.Az B (.cells cs' e (0,0)))):=by
 subst hcs
 exact Bc.N_ hx hy hv hsz hs h1 hi (Nat.le_of_ble_eq_true hfit)
theorem Bc.J0{x y:Operand}{t:TypeId}{v u z:Value}{r m size k bytes sz:Nat}{xs:List Value}{e:TypeId}{vs:List Value}(hx:E x=some (AG v k))(hy:E y=some u)(hv:u.cells.toList=vs)(hsz:TI P t sz bytes z)(hs:vs.length=sz)(h0:Nat.blt 0 sz=true)
 (h1:∀u∈vs,u.oneCell'=true) (hi:O[r]?=some (.row v e size m xs)) (hfit:k+vs.length≤xs.length):
 Bc P (.store t x y) T E H O (fun _ H' O'=>H'=H∧O'=O.set r (.row v e size m (E' xs k vs))):=Bc.N9 hx hy hv hsz hs (by simpa using h0) h1 hi hfit
end
section
variable {P : Program} {w : World} {H : Hp} {O : List A2} {f : FuncId} {vs : List Value}
theorem SH.front{i:Nat}{r:A2}(hi:O[i]?=some r)(h:SH w H O):SH w H (r::O.eraseIdx i):=by
 refine h.pick (fun j=>if j=0 then i else if j-1<i then j-1 else j) (fun j s hs=>?_) (fun j k hj hk he=>?_)
 ·cases j with
  |zero=>simp at hs;subst hs;simpa using hi
  |succ j=>
   simp only[List.getElem?_cons_succ,List.getElem?_eraseIdx]at hs
   simp only[Nat.succ_ne_zero,if_false,Nat.add_sub_cancel]
   by_cases h1:j<i
   ·rw[if_pos h1]at hs⊢;exact hs
   ·rw[if_neg h1]at hs⊢;exact hs
 ·split at he<;>split at he<;>(try split at he)<;>(try split at he)<;>omega
theorem SH.back{i:Nat}{r:A2}(hi:i<O.length)(h:SH w H (r::O.eraseIdx i)):SH w H (O.set i r):=by
 refine h.pick (fun j=>if j=i then 0 else if j<i then j+1 else j) (fun j s hs=>?_) (fun j k hj hk he=>?_)
 ·rw[List.getElem?_set]at hs
  by_cases e:j=i
  ·subst e
   simp[hi]at hs
   simp[hs]
  ·rw[if_neg (fun x=>e x.symm)]at hs
   rw[if_neg e]
   by_cases h1:j<i
   ·rw[if_pos h1,List.getElem?_cons_succ,List.getElem?_eraseIdx,if_pos h1];exact hs
   ·rw[if_neg h1]
    obtain⟨q,rfl⟩:∃q,j=q+1:=⟨j-1,by omega⟩
    rw[List.getElem?_cons_succ,List.getElem?_eraseIdx,if_neg (by omega)];exact hs
 ·split at he<;>split at he<;>(try split at he)<;>(try split at he)<;>omega
theorem Ob{i:Nat}{r:A2}(hi:O[i]?=some r):O.set i r=O:=by
 apply List.ext_getElem?
 intro j
 rw[List.getElem?_set]
 split
 ·rename_i e;subst e
  have:=(List.getElem?_eq_some_iff.1 hi).1
  simp[this]at hi⊢;exact hi.symm
 ·rfl
theorem CB.at{v:Value}{r:A2}(i:Nat)(hi:O[i]?=some r)(h:CB P f vs H (r::O.eraseIdx i) v):CB P f vs H O v:=fun w hs=>
 (h w (hs.front hi)).mono fun _ _ ⟨h1,h2⟩=>⟨h1,by
  have:=h2.back (List.getElem?_eq_some_iff.1 hi).1
  rwa [Ob hi]at this⟩
theorem Eg.atR{R:Value→Hp→Prop}{r:A2}(i:Nat)(hi:O[i]?=some r)(h:Eg P f vs H (r::O.eraseIdx i) (fun v H' O'=>R v H'∧r::O.eraseIdx i=O')):Eg P f vs H O (fun v H' O'=>R v H'∧O=O'):=fun w hs=>
 (h w (hs.front hi)).mono fun _ _ ⟨v,H',O',h1,h2,h3,h5,h6⟩=>by
  subst h6
  have:=h3.back (List.getElem?_eq_some_iff.1 hi).1
  rw[Ob hi]at this
  exact⟨v,H',O,h1,h2,this,h5,rf⟩
theorem Eg.at{R:Value→Hp→A2→Prop}{r:A2}(i:Nat)(hi:O[i]?=some r)(h:Eg P f vs H (r::O.eraseIdx i) (fun v H' O'=> ∃r',R v H' r'∧r'::O.eraseIdx i=O')):Eg P f vs H O (fun v H' O'=> ∃r',R v H' r'∧O.set i r'=O'):=fun w hs=>
 (h w (hs.front hi)).mono fun _ _ ⟨v,H',O',h1,h2,h3,⟨r',h4,h5⟩⟩=>by
  subst h5
  exact⟨v,H',_,h1,h2,h3.back (List.getElem?_eq_some_iff.1 hi).1,r',h4,rf⟩
end
end Go.GK
namespace Go.GK
open Go.Maps
def AA{κ β:Type} [DecidableEq κ]:List (κ×β)→κ→Option β
 | [],_=>none
 |(k,v)::m,x=>if k=x then some v else AA m x
def LP{κ β:Type} [DecidableEq κ]:List (κ×β)→κ→β→List (κ×β)
 | [],_,_=>[]
 |(k,v)::m,x,y=>if k=x then(k,y)::m else(k,v)::LP m x y
def Di{κ β:Type} [DecidableEq κ](m:List (κ×β))(x:κ)(y:β):List (κ×β):=match AA m x with
 |some _=>LP m x y
 |none=>m++[(x,y)]
section
variable {κ β : Type} [DecidableEq κ]
theorem RW(m:List (κ×β))(x:κ)(y:β):(LP m x y).length=m.length:=by
 induction m with
 |nil=>rfl
 |cons p m ih=>obtain⟨k,v⟩:=p;simp only[LP];split<;>simp[ih]
theorem RX(m:List (κ×β))(x z:κ)(y:β):AA (LP m x y) z=if z=x then(AA m x).map (fun _=>y)else AA m z:=by
 induction m with
 |nil=>simp[AA,LP]
 |cons p m ih=>
  obtain⟨k,v⟩:=p
  simp only[LP]
  by_cases h:k=x
  ·subst h
   by_cases hz:z=k
   ·subst hz;simp[AA]
   ·have:¬k=z:=fun e=>hz e.symm
    simp[AA,hz,this]
  ·rw[if_neg h]
   simp only[AA]
   by_cases hz:z=x
   ·subst hz;simp[h,ih]
   ·by_cases hk:k=z
    ·subst hk;simp[hz]
    ·simp[hk,ih,hz]
theorem RY(m:List (κ×β))(x z:κ)(y:β)(h:AA m x=none):AA (m++[(x,y)]) z=if z=x then some y else AA m z:=by
 induction m with
 |nil=>
  by_cases hz:z=x
  ·subst hz;simp[AA]
  ·have:¬x=z:=fun e=>hz e.symm
   simp[AA,hz,this]
 |cons p m ih=>
  obtain⟨k,v⟩:=p
  simp only[AA]at h
  split at h
  ·cases h
  ·rename_i hk
   simp only[List.cons_append,AA]
   by_cases hz:z=x
   ·subst hz;simp[hk,ih h]
   ·by_cases hkz:k=z
    ·subst hkz;simp[hz]
    ·simp[hkz,ih h,hz]
theorem Ha(m:List (κ×β))(x z:κ)(y:β):AA (Di m x y) z=if z=x then some y else AA m z:=by
 unfold Di
 cases h:AA m x with
 |none=>exact RY m x z y h
 |some v=>rw[RX,h];rfl
theorem Iu(m:List (κ×β))(x:κ)(y:β):(Di m x y).length=if(AA m x).isSome then m.length else m.length+1:=by
 unfold Di
 cases h:AA m x with
 |none=>simp
 |some v=>simp[RW]
end
structure NQ(P:Program)(kt:TypeId)(κ:Type)where
 val:κ→Value
 lit:κ→Lit
 ok:κ→Prop
 keyed:Keyed P kt
 of:∀k,ok k→keyOf P kt (val k)=some (lit k)
 key:∀k,WideAt.IsKeyLit (lit k)
 inj:∀k k',lit k=lit k'→k=k'
structure JR(P:Program)(et:TypeId)(β:Type)where
 val:β→Value
 QX:β→DataW Unit
 ok:β→Prop
 of:∀b,ok b→plainElem P et (val b)=some (QX b,[])
 inv:∀v b ps,plainElem P et v=some (QX b,ps)→v=val b
 one:∀b,(val b).oneCell'=true
theorem XG{n:Int}(h:Dw n):(Lit.int .i64 n).wf=true:=by
 simp only[Dw]at h
 simp[Lit.wf,IntKind.min,IntKind.max,IntKind.signed,IntKind.bits]
 omega
def Ow{P:Program}{kt:TypeId}(h:P.underlying kt=some (.int .i64)):NQ P kt Int where
 val n:= .int .i64 n
 lit n:= .int .i64 n
 ok n:=Dw n
 keyed:=int_keyed h
 of k hk:=keyOf_int_mk h (XG hk)
 key _:=trivial
 inj _ _ h:=by injection h
def Jt{P:Program}{kt:TypeId}(h:P.underlying kt=some .string):NQ P kt BF where
 val s:=sv s
 lit s:= .string s
 ok s:=s.length≤AJ
 keyed:=string_keyed h
 of k hk:=by
  have:=Go.WideMaps.keyOf_string_mk (s:=⟨⟨k⟩⟩) h (by
   show k.length≤maxLen
   simp only[AJ,maxLen]at*;omega)
  exact this
 key _:=trivial
 inj _ _ h:=by injection h
def HJ{P:Program}{et:TypeId}(h:P.underlying et=some (.int .i64)):JR P et Int where
 val n:= .int .i64 n
 QX n:= .lit (.int .i64 n)
 ok n:=Dw n
 of b hb:=plainElem_int h (XG hb)
 inv v b ps hv:=by
  obtain⟨a,rfl,h2,_⟩:=plainElem_int_inv h hv
  simp only[Prod.mk.injEq,DataW.lit.injEq,Lit.int.injEq,true_and]at h2
  rw[h2.1]
 one _:=rfl
def Vj{P:Program}{et:TypeId}(h:P.underlying et=some .bool):JR P et Bool where
 val b:= .bool b
 QX b:= .lit (.bool b)
 ok _:=True
 of b _:=plainElem_bool h b
 inv v b ps hv:=by
  unfold plainElem at hv
  rw[h]at hv
  cases v<;>simp at hv
  rw[hv.1]
 one _:=rfl
section
variable {P : Program} {kt et : TypeId} {κ β : Type} [DecidableEq κ]
def JQ(K:NQ P kt κ)(E:JR P et β)(b:Nat)(m:List (κ×β))(w:World):Prop:=
 ∃D:DataW Unit,w.ownsMap P kt (plainElem P et) b m.length D∧Maps.size D=m.length∧(∀k,Maps.has D (K.lit k)=(AA m k).isSome)∧∀k x,AA m k=some x→∀z,D.atKey (K.lit k) z=E.QX x
def DK(K:NQ P kt κ)(E:JR P et β)(b:Nat)(m:List (κ×β)):A2:=
 .own b (JQ K E b m) (fun _ ⟨_,h,_⟩=>h.lt) (fun _ _ _ ⟨D,h,h2⟩ hg hne=>⟨D,h.kept hg (fun e=>hne e.symm),h2⟩)
end
section
variable {P : Program} {kt et : TypeId} {κ β : Type} [DecidableEq κ] {K : NQ P kt κ} {M : JR P et β}
variable {T : TypeId} {E : Operand → Option Value} {H : Hp} {O : List A2} {t : TypeId}
theorem Ab.lookup{x y:Operand}{b i bytes:Nat}{m:List (κ×β)}{k:κ}{z:β}(ht:P.underlying t=some (.map kt et))(hz:TI P et 1 bytes (M.val z))(hzo:M.ok z)(hx:E x=some (.map (some b)))(hy:E y=some (K.val k))(hk:K.ok k)(hi:O[i]?=some (DK K M b m)):
  Ab P (.lookup t x y false) T E H O (M.val ((AA m k).getD z)):= .AR fun ac w o ho _ he hs=>by
 obtain⟨D,h1,h2,h3,h4⟩:JQ K M b m w:=hs.ok i _ hi
 obtain⟨v,ps,hrun,hv⟩:=h1.lookup K.keyed ht hz.zeroValue (M.of z hzo) (K.of k hk)
 have e:v=M.val ((AA m k).getD z):=by
  refine M.inv v _ ps ?_
  rw[hv]
  cases hg:AA m k with
  |none=>
   have:=h3 k;rw[hg]at this
   rw[Maps.atKey_of_not_has this];rfl
  |some u=>rw[h4 k u hg];rfl
 subst e
 simp[execOp,ho,he x _ hx,he y _ hy,hrun]
theorem Ab.LC{x y:Operand}{b i bytes:Nat}{m:List (κ×β)}{k:κ}{z:β}(ht:P.underlying t=some (.map kt et))(hz:TI P et 1 bytes (M.val z))(hzo:M.ok z)(hx:E x=some (.map (some b)))(hy:E y=some (K.val k))(hk:K.ok k)(hi:O[i]?=some (DK K M b m)):
  Ab P (.lookup t x y true) T E H O (.tuple #[M.val ((AA m k).getD z), .bool (AA m k).isSome]):= .AR fun ac w o ho _ he hs=>by
 obtain⟨D,h1,h2,h3,h4⟩:JQ K M b m w:=hs.ok i _ hi
 obtain⟨v,ps,hrun,hv⟩:=h1.look_ok K.keyed ht hz.zeroValue (M.of z hzo) (K.of k hk)
 have e:v=M.val ((AA m k).getD z):=by
  refine M.inv v _ ps ?_
  rw[hv]
  cases hg:AA m k with
  |none=>
   have:=h3 k;rw[hg]at this
   rw[Maps.atKey_of_not_has this];rfl
  |some u=>rw[h4 k u hg];rfl
 subst e
 rw[h3 k]at hrun
 simp[execOp,ho,he x _ hx,he y _ hy,hrun]
theorem Ab.Nw{x:Operand}{b i:Nat}{m:List (κ×β)}(ht:P.underlying t=some (.map kt et))(hx:E x=some (.map (some b)))(hi:O[i]?=some (DK K M b m)):
  Ab P (.call {callee:= .builtin .len,args:= #[x],argTypes:= #[t]}) T E H O (.int .i64 ((m.length:Nat):Int)):= .AR fun ac w o ho _ he hs=>by
 obtain⟨D,h1,h2,h3,h4⟩:JQ K M b m w:=hs.ok i _ hi
 have:=h1.len ht o.type
 rw[h2]at this
 simp[execOp,ho,he x _ hx,resolve,invoke,builtin,this]
theorem JQ.store{w:World}{b:Nat}{m:List (κ×β)}(h:JQ K M b m w)(ht:P.underlying t=some (.map kt et)){k:κ}{v:β}(hk:K.ok k)(hv:M.ok v)(hn:m.length≤AJ):
  ∃w',(Instr.mapUpdate t (.map (some b)) (K.val k) (M.val v)).run P w= .ok () w'∧JQ K M b (Di m k v) w'∧w.grownBy w' (some b):=by
 obtain⟨D,h1,h2,h3,h4⟩:=h
 obtain⟨w',g1,g2,g3⟩:=h1.update K.keyed ht (by simp only[AJ,maxLen]at*;omega) (K.of k hk) (M.of v hv)
 have hsz:Maps.size (D.put (K.lit k) (M.QX v))=(Di m k v).length:=by
  rw[Maps.size_put (h1.tidy K.keyed),h3 k,h2,Iu]
 refine⟨w',g1,⟨_,?_,hsz,fun k'=>?_,fun k' x hx z=>?_⟩,g3⟩
 ·obtain⟨es,clock,q1,q2,q3,q4⟩:=g2
  refine⟨es,clock,q1,q2,?_,q4⟩
  have:Maps.size (D.put (K.lit k) (M.QX v))=es.size:=by rw[q4];exact Go.length_read es
  rw[←hsz,this];exact Nat.le_refl _
 ·rw[Ha]
  by_cases e:k'=k
  ·subst e;rw[if_pos rfl,Maps.has_put_same h1.isMap (K.key _)];rfl
  ·rw[if_neg e,Maps.has_put_other (fun x=>e (K.inj _ _ x)),h3]
 ·rw[Ha]at hx
  by_cases e:k'=k
  ·subst e;rw[if_pos rfl]at hx;injection hx with hx;subst hx
   exact Maps.atKey_put_same h1.isMap (K.key _) _ _
  ·rw[if_neg e]at hx
   rw[Maps.atKey_put_other (fun x=>e (K.inj _ _ x))]
   exact h4 k' x hx z
theorem Bc.mapUpdate{x y u:Operand}{b i:Nat}{m:List (κ×β)}{k:κ}{v:β}(ht:P.underlying t=some (.map kt et))(hx:E x=some (.map (some b)))(hy:E y=some (K.val k))(hu:E u=some (M.val v))(hk:K.ok k)(hv:M.ok v)(hn:m.length≤AJ)(hi:O[i]?=some (DK K M b m)):
  Bc P (.mapUpdate t x y u) T E H O (fun _ H' O'=>H'=H∧O'=O.set i (DK K M b (Di m k v))):= .KI fun a w o ho _ he hs=>by
 obtain⟨w',g1,g2,g3⟩:=JQ.store (hs.ok i _ hi) ht hk hv hn
 refine⟨w',H,_,?_,Hp.le.refl H,⟨rf,rf⟩,hs.set hi g3 g2 (fun c hc=> .inl hc)⟩
 simp[execOp,ho,he x _ hx,he y _ hy,he u _ hu,g1]
theorem Bc.insert{x y u:Operand}{b i:Nat}{m:List (κ×β)}{k:κ}{v:β}(ht:P.underlying t=some (.map kt et))(hx:E x=some (.map (some b)))(hy:E y=some (K.val k))(hu:E u=some (M.val v))(hk:K.ok k)(hv:M.ok v)(hn:m.length≤AJ)(hi:O[i]?=some (DK K M b m)):
  Bc P (.insert t x y u) T E H O (fun _ H' O'=>H'=H∧O'=O.set i (DK K M b (Di m k v))):= .KI fun a w o ho _ he hs=>by
 obtain⟨w',g1,g2,g3⟩:=JQ.store (hs.ok i _ hi) ht hk hv hn
 refine⟨w',H,_,?_,Hp.le.refl H,⟨rf,rf⟩,hs.set hi g3 g2 (fun c hc=> .inl hc)⟩
 simp[execOp,ho,he x _ hx,he y _ hy,he u _ hu,g1]
theorem Bc.makeMap(K:NQ P kt κ)(M:JR P et β):Bc P (.makeMap t none) T E H O (fun v H' O'=> ∃B,v= .map (some B)∧H'=H∧O'=DK K M B []::O):= .AR fun a w o ho _ he hs=>by
 refine⟨.map (some w.heap.size),w.alloc (.map #[] 0),H,DK K M w.heap.size []::O,?_,Hp.le.refl H,⟨_,rf,rf,rf⟩,hs.push (World.grownBy_alloc w _ none) ?_ (fun b hb=>by simp only[DK,A2.block,Option.some.injEq]at hb;omega)⟩
 ·simp[execOp,ho,Go.RowKit.run_makeMap]
 ·exact⟨.map [],World.ownsMap_made w P kt _,rfl,fun k=>rfl,fun k x h=>by cases h⟩
end
section
variable {P : Program} {kt et : TypeId} {κ β : Type} [DecidableEq κ]
variable {Q : Exit → Act → World → Prop} {n : Nat} {L : List (Nat × Value)} {H : Hp} {O : List A2} {ops : Array Oper} {rest : List Oper} {T t : TypeId}
theorem Aa.makeMap{d:Tmp}{pos:String}{af:Array Edge}(K:NQ P kt κ)(M:JR P et β)(hd:Nat.blt d n=true)(k:∀B,Aa P ops Q rest n ((d, .map (some B))::L) H (DK K M B []::O)):
  Aa P ops Q ({dst:=some d,op:= .makeMap t none,type:=T,pos,after:=af,guard:=none} ::rest) n L H O:=
 Aa.Fi (Bc.makeMap K M) hd (by rintro v H' O' _ ⟨B,rfl,rfl,rfl⟩;exact k B)
theorem Aa.mapUpdate{pos:String}{af:Array Edge}{K:NQ P kt κ}{M:JR P et β}{x y u:Operand}{b:Nat}{m:List (κ×β)}{k:κ}{v:β}(i:Nat)(ht:P.underlying t=some (.map kt et))(hx:ev L x=some (.map (some b)))(hy:ev L y=some (K.val k))(hu:ev L u=some (M.val v))(hk:K.ok k)(hv:M.ok v)(hn:m.length≤AJ)(hi:O[i]?=some (DK K M b m))
  (kk:Aa P ops Q rest n L H (O.set i (DK K M b (Di m k v)))):
  Aa P ops Q ({dst:=none,op:= .mapUpdate t x y u,type:=T,pos,after:=af,guard:=none} ::rest) n L H O:=
 Aa.U9 (Bc.mapUpdate ht hx hy hu hk hv hn hi) (by rintro v H' O' _ ⟨rfl,rfl⟩;exact kk)
theorem Aa.insert{pos:String}{af:Array Edge}{K:NQ P kt κ}{M:JR P et β}{x y u:Operand}{b:Nat}{m:List (κ×β)}{k:κ}{v:β}(i:Nat)(ht:P.underlying t=some (.map kt et))(hx:ev L x=some (.map (some b)))(hy:ev L y=some (K.val k))(hu:ev L u=some (M.val v))(hk:K.ok k)(hv:M.ok v)(hn:m.length≤AJ)(hi:O[i]?=some (DK K M b m))
  (kk:Aa P ops Q rest n L H (O.set i (DK K M b (Di m k v)))):
  Aa P ops Q ({dst:=none,op:= .insert t x y u,type:=T,pos,after:=af,guard:=none} ::rest) n L H O:=
 Aa.U9 (Bc.insert ht hx hy hu hk hv hn hi) (by rintro v H' O' _ ⟨rfl,rfl⟩;exact kk)
end
section
variable {P : Program} {T : TypeId} {E : Operand → Option Value} {H : Hp} {O : List A2}
theorem Ab.makeFunc{fn:Fn}{fs cs:List Operand}{vf vc:List Value}(hf:LS E fs=some vf)(hc:LS E cs=some vc):Ab P (.makeFunc fn fs.toArray cs.toArray) T E H O (.func fn vf.toArray vc.toArray):= .AR fun a w o ho _ he _=>by
 have h1:=E7 (a:=a) he hf
 have h2:=E7 (a:=a) he hc
 simp[execOp,ho,Instr.makeFunc,h1,h2]
theorem Ab.Wn{x:Operand}{f:FuncId}{first:List Value}{args:List Operand}{vs:List Value}{tys:Array TypeId}{v:Value}(hent:EH P f)(hx:E x=some (.func (.func f) first.toArray #[]))(ha:LS E args=some vs)(ht:CB P f (first++vs) H O v):Ab P (.call {callee:= .value x,args:=args.toArray,argTypes:=tys}) T E H O v:=fun a w o ho _ he hs=>by
 have hr:(execOp a.eval o).run P w= .ok (.enter f (first++vs).toArray) w:=by
  have:=hent.run (first++vs).toArray w
  simp[execOp,ho,resolve,Deferred.ofValue,he x _ hx,invoke,E7 he ha]at this⊢
  rw[this]
 simp only[Oper.quietAt,hr,Oper.quietUpon,true_and]
 exact ht w hs
theorem Bc.Q4{x:Operand}{f:FuncId}{first caps:List Value}{args:List Operand}{vs:List Value}{tys:Array TypeId}{R:Value→Hp→List A2→Prop}(hent:EH P f)(hx:E x=some (.func (.func f) first.toArray caps.toArray))(ha:LS E args=some vs)(ht:Eg P f (first++vs++caps) H O R):Bc P (.call {callee:= .value x,args:=args.toArray,argTypes:=tys}) T E H O R:=fun a w o next Q ho _ he hs k=>by
 have hr:(execOp a.eval o).run P w= .ok (.enter f (first++vs++caps).toArray) w:=by
  have:=hent.run (first++vs++caps).toArray w
  simp[execOp,ho,resolve,Deferred.ofValue,he x _ hx,invoke,E7 he ha]at this⊢
  rw[this]
 unfold Oper.wp
 rw[hr]
 refine(ht w hs).mono ?_
 rintro e w' ⟨v,H',O',rfl,h2,h3,h4⟩
 exact k v w' H' O' h2 h4 h3
end
end Go.GK
namespace Go.GK
def Sf:Cd UInt8 where
 sz:=1
 Lay _ b cs:=cs=[.int .u8 (b.toNat:Nat)]
 len h:=by subst h;rfl
 mono _ h:=h
 one h:=by subst h;intro u hu;simp at hu;subst hu;rfl
theorem QK{H:Hp} :∀ {l:BF} {xs:List Value},Ap Sf H l xs↔xs=Lib.byteCells l
 | [],xs=>Iff.rfl
 |b::l,xs=>by
  constructor
  ·rintro⟨cs,ys,rfl,h1,h2⟩
   rw[show cs=[.int .u8 (b.toNat:Nat)]from h1,QK.1 h2];rfl
  ·intro h;exact⟨[.int .u8 (b.toNat:Nat)],Lib.byteCells l,h,rfl,QK.2 rfl⟩
section
variable {P : Program} {T : TypeId} {E : Operand → Option Value} {H : Hp} {O : List A2}
theorem Bc.PY{s x:Operand}{t u e:TypeId}{v:Value}{i:Nat}{l str:BF}{xs:List Value}(ht:P.underlying t=some (.slice e))(hu:P.underlying u=some .string)(hz:TI P e 1 1 (.int .u8 0))(hs:E s=some v)(hx:E x=some (sv str))
  (hi:O[i]?=some (.row v e 1 l.length xs)) (hL:Ap Sf H l xs) (hv:v= .slice none 0 0∨l≠ []) (hb:l.length+str.length≤AJ):
  Bc P (.call {callee:= .builtin .append,args:= #[s,x],argTypes:= #[t,u]}) T E H O (fun v' H' O'=>H'=H∧(v'= .slice none 0 0∨l++str≠ [])∧Ap Sf H (l++str) (xs++Lib.byteCells str)∧O'=O.set i (.row v' e 1 (l++str).length (xs++Lib.byteCells str))):=by
 intro a w o next Q ho hT he hw k
 have hown:=hw.ok i _ hi
 simp only[A2.ok]at hown
 obtain⟨ii,hii,g1,g2,g3⟩:=hz.ex
 have hsz:(ByteArray.mk (Array.mk str)).size=str.length:=rfl
 have hsc:Lib.strCells (ByteArray.mk (Array.mk str))=Lib.byteCells str:=rfl
 obtain⟨v',w',hr,k1,k2,k3⟩:=Lib.run_append_own_string (P:=P) w 0 t u o.type e ii ht hu hii g3 g1 g2 v l.length xs hown ⟨⟨str⟩⟩ (by rw[hsz];simp only[maxLen,AJ]at*;omega) (by rw[hsz];simp only[AJ]at*;omega) (Nat.zero_le _)
 rw[hsz,hsc]at k1
 rw[hsz]at k3
 have hL':Ap Sf H (l++str) (xs++Lib.byteCells str):=hL.app (QK.2 rfl)
 unfold Oper.wp
 simp only[sv]at hx
 simp[execOp,ho,resolve,invoke,builtin,he s _ hs,he x _ hx,hr,Result.andThen]
 refine k v' w' H _ (Hp.le.refl H) ⟨rf,?_,hL',rf⟩ (hw.set hi k2 (by rw[List.length_append];exact k1) (fun b hb'=>?_))
 ·by_cases h:l++str=[]
  ·left
   simp at h
   obtain⟨rfl,rfl⟩:=h
   rcases hv with hv|hv
   ·exact k3.2 ⟨hv,rf⟩
   ·exact absurd rf hv
  ·exact .inr h
 ·rcases hown.2 with⟨rfl,hl0⟩|⟨g,cap,cur,rfl,_,hg,hnc,hcm,hcs,htake⟩
  ·right
   have hx0:xs=[]:=List.eq_nil_of_length_eq_zero (by rw[hown.1,hl0,Nat.zero_mul])
   subst hx0
   obtain⟨v2,w2,hr2,q1,_,_⟩:=Lib.run_append_own_string (P:=P) w w.heap.size t u o.type e ii ht hu hii g3 g1 g2 (.slice none 0 0) 0 [] (World.ownsRow_nil w _ e _) ⟨⟨str⟩⟩ (by rw[hsz];simp only[maxLen,AJ]at*;omega) (by rw[hsz];simp only[AJ]at*;omega) (Nat.le_refl _)
   rw[hr]at hr2
   injection hr2 with e1 e2
   subst e1;subst e2
   exact(World.ownsRow.lt q1 b hb').1
  ·by_cases hroom:l.length+str.length≤cap
   ·left
    have hr2:=Lib.run_append_room_string (P:=P) w t u o.type e ii ht hu hii g1 g l.length cap cur hg ⟨⟨str⟩⟩ hroom (by rw[hsz];simp at hcs;omega)
    rw[hr]at hr2
    injection hr2 with e1 e2
    rw[e1]at hb'
    exact hb'
   ·right
    have hcc:AJ=1099511627776:=rfl
    have hr2:=Lib.run_append_grow_string (P:=P) w t u o.type e ii (.int .u8 0) ht hu hii g3 ⟨g,0,none⟩ l.length cap xs (by rw[hown.1,g1]) (hown.cells (g:=g) rfl) ⟨⟨str⟩⟩ (by rw[hsz];omega) (by rw[hsz];simp only[AJ]at*;omega) (by rw[g2,hsz];exact growslice_fits (by simp only[AJ]at*;omega) (by simp only[AJ]at*;omega))
    rw[hr]at hr2
    injection hr2 with e1 e2
    rw[e1]at hb'
    simp[A2.block,Value.ownBlock]at hb'
    omega
theorem Ab.Yl{x y:Operand}{t Ty:TypeId}{te:TypeId}{j:TypeInfo}(hp:P.underlying t=some (.pointer te))(hj:P.info? te=some j)(hx:E x=some (.pointer none))(hy:E y=some (.pointer none)):Ab P (.binOp .eql t x y Ty) T E H O (.bool true):= .AR fun a w o ho _ he _=>by
 have h:(binOp .eql t (.pointer none) (.pointer none)).run P w= .ok (.bool true) w:=by
  have h:∀d:Nat,(Op.equalIn (d+1) t (.pointer none) (.pointer none)).run P w= .ok true w:=fun d=>by
   simp[Op.equalIn,BC hp,sizeOf,typeInfo,hj,sameAddr]
  simp only[binOp]
  show(do pure (.bool (←Op.equal t _ _)):Sem Value).run P w=_
  unfold Op.equal Op.maxDepth
  simp[h 9999]
 simp[execOp,ho,he x _ hx,he y _ hy,eqGuard,h]
theorem Ab.W9{x y:Operand}{t Ty:TypeId}{te:TypeId}{j:TypeInfo}{a:Addr}(hp:P.underlying t=some (.pointer te))(hj:P.info? te=some j)(hx:E x=some (.pointer (some a)))(hy:E y=some (.pointer none)):Ab P (.binOp .eql t x y Ty) T E H O (.bool false):= .AR fun ac w o ho _ he _=>by
 have h:(binOp .eql t (.pointer (some a)) (.pointer none)).run P w= .ok (.bool false) w:=by
  have h:∀d:Nat,(Op.equalIn (d+1) t (.pointer (some a)) (.pointer none)).run P w= .ok false w:=fun d=>by
   simp[Op.equalIn,BC hp,sizeOf,typeInfo,hj,sameAddr]
  simp only[binOp]
  show(do pure (.bool (←Op.equal t _ _)):Sem Value).run P w=_
  unfold Op.equal Op.maxDepth
  simp[h 9999]
 simp[execOp,ho,he x _ hx,he y _ hy,eqGuard,h]
theorem Ab.WR{x y:Operand}{t Ty:TypeId}{te:TypeId}{j:TypeInfo}{b off:Nat}(hp:P.underlying t=some (.pointer te))(hj:P.info? te=some j)(hx:E x=some (ptr b off))(hy:E y=some (ptr b off)):Ab P (.binOp .neq t x y Ty) T E H O (.bool false):= .AR fun ac w o ho _ he _=>by
 have h:=Lib.run_neq_ptr_same (P:=P) w (tp:=t) ⟨b,off,none⟩ hp hj
 simp only[ptr]at hx hy
 simp[execOp,ho,he x _ hx,he y _ hy,eqGuard,h]
theorem Ab.Su{x:Operand}{src dst t e:TypeId}{j:TypeInfo}{b i:Nat}{cs:Array Value}(hs:P.underlying src=some (.pointer t))(hd:P.underlying dst=some .unsafePointer)(ht:P.info? t=some j)(hj:j.size≠0)(hx:E x=some (ptr b 0))(hi:O[i]?=some (.Az b (.cells cs e (0,0))))(h0:0<cs.size):Ab P (.convert src dst x) T E H O (ptr b 0):= .AR fun ac w o ho _ he hw=>by
 have hg:=hw.ok i _ hi
 simp only[A2.ok]at hg
 have h:=Lib.run_to_unsafe (P:=P) w (src:=src) (dst:=dst) (cells:=cs.size) (e:=e) ⟨b,0,none⟩ hs hd ht hj (by simp[World.shape?,hg]) h0
 simp only[ptr]at hx
 simp[execOp,ho,he x _ hx,h,ptr]
theorem Ab.S4{x:Operand}{src dst u e:TypeId}{j:TypeInfo}{b i:Nat}{cs:Array Value}(hs:P.underlying src=some .unsafePointer)(hd:P.underlying dst=some (.pointer u))(hu:P.info? u=some j)(hx:E x=some (ptr b 0))(hi:O[i]?=some (.Az b (.cells cs e (0,0))))(hl:liesAt P P.depth e (cs.size/P.cellsOf e) 0 u 1=true):Ab P (.convert src dst x) T E H O (ptr b 0):= .AR fun ac w o ho _ he hw=>by
 have hg:=hw.ok i _ hi
 simp only[A2.ok]at hg
 have h:=Lib.run_from_unsafe (P:=P) w (src:=src) (dst:=dst) (cells:=cs.size) (e:=e) ⟨b,0,none⟩ hs hd hu (by simp[World.shape?,hg]) hl
 simp only[ptr]at hx
 simp[execOp,ho,he x _ hx,h,ptr]
theorem Ab.Td{x:Operand}{f:FuncId}{fn:Func}{v:Value}{tys:Array TypeId}(hf:P.funcs[f]?=some fn)(hname:(fn.name== "runtime.NumGoroutine")=false)(hb:fn.body.isNone=true)(hn:Extern.findNext fn=none)(he':Extern.find fn=some Extern.AbiNoEscape.same)(hx:E x=some v):
  Ab P (.call {callee:= .value (.func f),args:= #[x],argTypes:=tys}) T E H O v:= .AR fun ac w o ho _ he hw=>by
 have h:=run_callFunc_extern hf hname hb hn he' #[v] w
 rw[Lib.run_noEscape]at h
 have hev:ac.eval (.func f)= .func (.func f) #[] #[]:=rfl
 simp[execOp,ho,resolve,Deferred.ofValue,hev,invoke,he x _ hx,h]
theorem Ab.M9{x:Operand}{t:TypeId}(hx:E x=some (.slice none 0 0)):Ab P (.call {callee:= .builtin .unsafeSliceData,args:= #[x],argTypes:= #[t]}) T E H O (.pointer none):= .AR fun ac w o ho _ he hw=>by
 have h:=Lib.run_unsafeSliceData_nil (P:=P) w #[t] o.type 0 0
 simp[execOp,ho,resolve,invoke,builtin,he x _ hx,h]
theorem Ab.Rp{x:Operand}{t e:TypeId}{v:Value}{i n:Nat}{xs:List Value}(hx:E x=some v)(hi:O[i]?=some (.row v e 1 n xs))(h0:0<n):Ab P (.call {callee:= .builtin .unsafeSliceData,args:= #[x],argTypes:= #[t]}) T E H O (AG v 0):= .AR fun ac w o ho _ he hw=>by
 have hown:=hw.ok i _ hi
 simp only[A2.ok]at hown
 rcases hown.2 with⟨_,hz⟩|⟨g,cap,cur,rfl,_,hg,hnc,hcm,hcs,htake⟩
 ·omega
 ·have h:=Lib.run_unsafeSliceData_row (P:=P) w #[t] o.type ⟨g,0,none⟩ n cap (by omega)
  simp[execOp,ho,resolve,invoke,builtin,he x _ hx,h,AG,Addr.add]
theorem Ab.KC{x y:Operand}{pt it:TypeId}{p:Option Addr}(hx:E x=some (.pointer p))(hy:E y=some (.int .i64 0)):Ab P (.call {callee:= .builtin .unsafeString,args:= #[x,y],argTypes:= #[pt,it]}) T E H O (sv []):= .AR fun ac w o ho _ he hw=>by
 have h:=Lib.run_unsafeString_none (P:=P) w pt it o.type p
 simp[execOp,ho,resolve,invoke,builtin,he x _ hx,he y _ hy,h]
 rfl
theorem Bc.unsafeString{x y:Operand}{pt it e:TypeId}{v:Value}{i:Nat}{l:BF}{xs:List Value}(hp:P.underlying pt=some (.pointer e))(hc:P.cellsOf e=1)(hx:E x=some (AG v 0))(hy:E y=some (.int .i64 (l.length:Nat)))(hi:O[i]?=some (.row v e 1 l.length xs))(hL:Ap Sf H l xs)(h0:l≠ []):
  Bc P (.call {callee:= .builtin .unsafeString,args:= #[x,y],argTypes:= #[pt,it]}) T E H O (fun u H' O'=>H'=H∧O'=O.set i .emp∧u=sv l):= .AR fun ac w o ho _ he hw=>by
 have hown:=hw.ok i _ hi
 simp only[A2.ok]at hown
 rcases hown.2 with⟨_,hz⟩|⟨g,cap,cur,rfl,_,hg,hnc,hcm,hcs,htake⟩
 ·exact absurd (List.length_eq_zero_iff.1 hz) h0
 ·have hxs:=QK.1 hL
  have h:=Lib.run_unsafeString_row (P:=P) w pt it o.type e hp hc g cur.size (by simp[World.shape?,hg]) l h0 (by simp at hcs;omega) (by simp only[maxLen]at hcm;omega) (fun j x hj=>hown.cells (g:=g) rfl j _ (by rw[hxs];simp[Lib.byteCells,hj]))
  refine⟨sv l,w.freeze ⟨g,0,none⟩ l.length,H,O.set i .emp,?_,Hp.le.refl H,⟨rfl,rfl,rfl⟩,hw.set hi (r':= .emp) ?_ trivial (fun b hb=>by cases hb)⟩
  ·simp only[AG,Addr.add]at hx
   simp[execOp,ho,resolve,invoke,builtin,he x _ hx,he y _ hy,h]
   rfl
  ·have hn0:¬l.length=0:=fun h=>h0 (List.length_eq_zero_iff.1 h)
   unfold World.freeze
   rw[if_neg hn0]
   refine⟨rf,rf,rf,by simp,fun k hk hne=>?_⟩
   have:¬g=k:=fun e=>hne (by subst e;rfl)
   simp[Array.getElem?_modify,this]
end
section
variable {P : Program} {Q : Exit → Act → World → Prop} {n : Nat} {L : List (Nat × Value)} {H : Hp} {O : List A2} {ops : Array Oper} {rest : List Oper} {T : TypeId}
theorem Aa.PY{d:Tmp}{pos:String}{af:Array Edge}{s x:Operand}{t u e:TypeId}{v:Value}{l str:BF}{xs:List Value}(i:Nat)(ht:P.underlying t=some (.slice e))(hu:P.underlying u=some .string)(hz:TI P e 1 1 (.int .u8 0))(hs:ev L s=some v)(hx:ev L x=some (sv str))
  (hi:O[i]?=some (.row v e 1 l.length xs)) (hL:Ap Sf H l xs) (hv:v= .slice none 0 0∨l≠ []) (hb:l.length+str.length≤AJ) (hd:Nat.blt d n=true)
  (k:∀v' xs',(v'= .slice none 0 0∨l++str≠ [])→Ap Sf H (l++str) xs'→Aa P ops Q rest n ((d,v')::L) H (O.set i (.row v' e 1 (l++str).length xs'))):
  Aa P ops Q ({dst:=some d,op:= .call {callee:= .builtin .append,args:= #[s,x],argTypes:= #[t,u]},type:=T,pos,after:=af,guard:=none} ::rest) n L H O:=
 Aa.Fi (Bc.PY ht hu hz hs hx hi hL hv hb) hd (by rintro v' H' O' _ ⟨rfl,h1,h2,rfl⟩;exact k v' _ h1 h2)
end
end Go.GK
namespace Go.GK
open Go.Proofs
def El(P:Program)(H:Hp):Prop:= ∀w O,SH w H O→Lib.TabIs P w "internal/strconv.uint64pow10" .u64 Lib.pow10Tab
theorem El.mono{P:Program}{H H':Hp}(h:El P H)(hl:H.le H'):El P H':=fun w O hs=>h w O (hs.weaken hl)
theorem RS(w:World)(k:Nat)(os:Array Obj):w.grownBy (Go.Sort.grow (w.drewN k) os) none:=
 ⟨rfl,rfl,rfl,by simp[Go.Sort.grow,World.drewN],fun b hb _=>by
  simp only[Go.Sort.grow,World.drewN];rw[Array.getElem?_append_left hb]⟩
structure Ih(H:Hp)(B:Nat)(a v:Value)(l:BF)(xs:List Value):Prop where
 a:a= .pointer none∨a=ptr B 0
 v:v= .slice none 0 0∨l≠ []
 L:Ap Sf H l xs
theorem Ih.new{H:Hp}{B:Nat} :Ih H B (.pointer none) (.slice none 0 0) [] []:=⟨.inl rfl, .inl rfl,rfl⟩
section
variable {P : Program} {H : Hp} {O : List A2}
theorem CB.itoa{f:FuncId}{n:Int}(hc:∀(n:Int), -9223372036854775808≤n→n≤9223372036854775807→∀(w:World),Lib.TabIs P w "internal/strconv.uint64pow10" .u64 Lib.pow10Tab→Calls P f #[.int .i64 n] w fun e w'=>e= .returned (.string ⟨(Lib.itoa n).toArray⟩)∧∃k os,w'=Go.Sort.grow (w.drewN k) os)
  (hG:El P H) (hn:Dw n):CB P f [.int .i64 n] H O (sv (Lib.itoa n)):=fun w hs=>
 (hc n hn.1 hn.2 w (hG w O hs)).mono fun e w' ⟨h1,k,os,h2⟩=>⟨h1,by subst h2;exact hs.grown (RS w k os)⟩
def Ml{α:Type}(le:α→α→Bool)(x:α):List α→List α
 | []=>[x]
 |y::l=>if le x y then x::y::l else y::Ml le x l
def E5{α:Type}(le:α→α→Bool):List α→List α
 | []=>[]
 |x::l=>Ml le x (E5 le l)
theorem Kc{α:Type}(le:α→α→Bool)(x:α):∀l,(Ml le x l).Perm (x::l)
 | []=> .refl _
 |y::l=>by
  unfold Ml;split
  ·exact .refl _
  ·exact((Kc le x l).cons y).trans (.swap ..)
theorem Dv{α:Type}(le:α→α→Bool):∀l,(E5 le l).Perm l
 | []=> .refl _
 |x::l=>(Kc le x _).trans ((Dv le l).cons x)
theorem Kr{α:Type}{le:α→α→Bool}(S:α→Prop)(tr:∀a b c,S a→S b→S c→le a b=true→le b c=true→le a c=true)(to:∀a b,S a→S b→le a b=true∨le b a=true)(x:α)(hx:S x):∀l,(∀a∈l,S a)→l.Pairwise (fun a b=>le a b=true)→(Ml le x l).Pairwise (fun a b=>le a b=true)
 | [],_,_=>by simp[Ml]
 |y::l,hl,h=>by
  have hy:=hl y (by simp)
  obtain⟨h1,h2⟩:=List.pairwise_cons.1 h
  unfold Ml;split
  ·rename_i hle
   refine List.pairwise_cons.2 ⟨fun b hb=>?_,h⟩
   rcases List.mem_cons.1 hb with rfl|hb
   ·exact hle
   ·exact tr _ _ _ hx hy (hl b (by simp[hb])) hle (h1 b hb)
  ·rename_i hle
   refine List.pairwise_cons.2 ⟨fun b hb=>?_,Kr S tr to x hx l (fun a ha=>hl a (by simp[ha])) h2⟩
   rcases List.mem_cons.1 ((Kc le x l).mem_iff.1 hb)with rfl|hb
   ·exact(to _ _ hx hy).resolve_left hle
   ·exact h1 b hb
theorem GD{α:Type}{le:α→α→Bool}(S:α→Prop)(tr:∀a b c,S a→S b→S c→le a b=true→le b c=true→le a c=true)(to:∀a b,S a→S b→le a b=true∨le b a=true):∀l,(∀a∈l,S a)→(E5 le l).Pairwise (fun a b=>le a b=true)
 | [],_=> .nil
 |x::l,h=>Kr S tr to x (h x (by simp)) _ (fun a ha=>h a (by simp[(Dv le l).mem_iff.1 ha])) (GD S tr to l fun a ha=>h a (by simp[ha]))
theorem MK{α:Type}{le:α→α→Bool}(tr:∀a b c,le a b=true→le b c=true→le a c=true)(to:∀a b,le a b=true∨le b a=true)(an:∀a b,le a b=true→le b a=true→a=b)(l:List α):E5 le l=l.mergeSort le:=
 List.Perm.eq_of_pairwise (le:=fun a b=>le a b=true) (fun a b _ _ h k=>an a b h k) (GD (fun _=>True) (fun a b c _ _ _=>tr a b c) (fun a b _ _=>to a b) l (fun _ _=>trivial)) (List.pairwise_mergeSort tr (fun a b=>by rcases to a b with h|h<;>simp[h]) l) ((Dv le l).trans (List.mergeSort_perm l le).symm)
theorem OD{α β:Type}(f:α→β)(le:β→β→Bool)(x:α):∀l,Ml le (f x) (l.map f)=(Ml (fun a b=>le (f a) (f b)) x l).map f
 | []=>rfl
 |y::l=>by
  simp only[List.map_cons,Ml];split
  ·rfl
  ·rw[OD f le x l];rfl
theorem LM{α β:Type}(f:α→β)(le:β→β→Bool):∀l,E5 le (l.map f)=(E5 (fun a b=>le (f a) (f b)) l).map f
 | []=>rfl
 |x::l=>by simp only[List.map_cons,E5];rw[LM f le l,OD]
theorem Ap.ints{H:Hp} :∀ {l:List Int} {xs:List Value},Ap Ar H l xs→xs=l.map (Value.int .i64)
 | [],xs,h=>h
 |a::l,_,⟨cs,ys,e,h1,h2⟩=>by subst e;rw[show cs=[.int .i64 a]from h1,Ap.ints h2];rfl
theorem ML{H:Hp} :∀(l:List Int),Ap Ar H l (l.map (Value.int .i64))
 | []=>rfl
 |a::l=>⟨[.int .i64 a],_,rfl,rfl,ML l⟩
def DB(l:List Int):List Int:=E5 (fun x y=>decide (x≤y)) l
theorem Oa(l:List Int):l.mergeSort (fun x y=>decide (x≤y))=DB l:=(MK (fun a b c h k=>by simp at*;omega) (fun a b=>by simp;omega) (fun a b h k=>by simp at*;omega) l).symm
theorem Eg.DB{f:FuncId}{l:List Int}{v:Value}{e:TypeId}{xs:List Value}
  (hc:∀(Az off cap:Nat) (zs:List Int) (w:World),Go.Sort.Holds (Value.int .i64) w Az off zs.toArray→Az<w.heap.size→zs.length<4611686018427387904→Calls P f #[.slice (some ⟨Az,off,none⟩) zs.length cap] w fun e w'=>
   e= .returned (.tuple #[])∧∃n os,w'=Go.Sort.grow (Go.Sort.putRow (Value.int .i64) (Go.Sort.ahead w n) Az off (zs.mergeSort fun x y=>decide (x≤y)).toArray) os)
  (h0:∀(p:Option Addr) (cap:Nat) (w:World),Calls P f #[.slice p 0 cap] w fun e w'=>e= .returned (.tuple #[])∧w'=w)
  (hL:Ap Ar H l xs) (hn:l.length≤AJ):
  Eg P f [v] H (.row v e 1 l.length xs::O) (fun r H' O'=> ∃xs', .tuple #[]=r∧Ap Ar H' (GK.DB l) xs'∧ .row v e 1 (GK.DB l).length xs'::O=O'):=fun w hs=>by
 have hx:=Ap.ints hL
 subst hx
 have hlen:(GK.DB l).length=l.length:=by rw[←Oa];simp
 have hown:=hs.ok 0 _ rfl
 simp only[A2.ok]at hown
 rcases hown.2 with⟨rfl,hz⟩|⟨g,cap,cur,rfl,_,hg,hnc,hcm,hcs,htake⟩
 ·have hl:l=[]:=List.eq_nil_of_length_eq_zero hz
  subst hl
  refine(h0 none 0 w).mono fun e' w' ⟨g1,g2⟩=>?_
  subst g2
  exact⟨_,H,_,g1,Hp.le.refl H,hs,[],rf,by simp[GK.DB,E5,Ap],by simp[GK.DB,E5]⟩
 ·rw[Nat.mul_one]at htake
  have hgs:g<w.heap.size:=(Array.getElem?_eq_some_iff.1 hg).1
  refine(hc g 0 cap l w (holds_of_blockI hg htake) hgs (by simp only[AJ]at hn;omega)).mono fun e' w' ⟨g1,n,os,g2⟩=>?_
  rw[Oa]at g2
  subst g2
  refine⟨_,H,_,g1,Hp.le.refl H,hs.set (i:=0) (r':= .row (.slice (some ⟨g,0,none⟩) l.length cap) e 1 (GK.DB l).length ((GK.DB l).map (Value.int .i64))) rf (grownBy_sortedI _) ?_ ?_,_,rf,ML _,rf⟩
  ·show World.ownsRow _ 0 e 1 _ _ _
   have:=ownsRow_sortedI (n:=n) (os:=os) (ss:=l) (ts:=GK.DB l) hlen (Nat.zero_le _) hg hnc hcm hcs
   rw[hlen];exact this
  ·intro b hb;left;exact hb
end
end Go.GK
namespace Go.GK
def I1(lo hi k:Nat)(x:Nat):Bool:=decide (lo≤x)&&decide (x≤hi)&&decide (x<k)
def Sc(lo hi:Nat)(x:Nat):Bool:=decide (lo≤x)&&decide (x≤hi)
theorem RD(lo hi:Nat):BE (I1 lo hi 0)=BE (fun _=>false):=EE fun x _=>by simp[I1]
theorem S5(lo hi k:Nat)(h1:(lo:Int)≤k)(h2:(k:Int)≤hi):BE (fun x=>I1 lo hi k x||x==k)=BE (I1 lo hi (k+1)):=EE fun x _=>by
 rw[Bool.eq_iff_iff];simp[I1];omega
theorem J_(lo hi k:Nat)(h:¬((lo:Int)≤k∧(k:Int)≤hi)):BE (I1 lo hi k)=BE (I1 lo hi (k+1)):=EE fun x _=>by
 rw[Bool.eq_iff_iff];simp[I1];omega
theorem RE(lo hi k:Nat)(h:256≤k):BE (I1 lo hi k)=BE (Sc lo hi):=EE fun x _=>by
 rw[Bool.eq_iff_iff];simp[I1,Sc];omega
def Fk(h p:Nat→Bool)(k x:Nat):Bool:=if x<64*k then h x else p x
theorem G0(h p:Nat→Bool):BE p=BE (Fk h p 0):=EE fun x _=>by simp[Fk]
theorem LA(h p:Nat→Bool)(k:Nat)(hk:4≤k):BE (Fk h p k)=BE h:=EE fun x hx=>by simp only[Fk];rw[if_pos (by omega)]
theorem Tk(h p:Nat→Bool)(k:Nat):word (Fk h p k) k=word p k:=by
 apply BitVec.eq_of_getLsbD_eq;intro j hj;rw[A_,A_];simp only[Fk];rw[if_neg (by omega)]
theorem Ns(h p:Nat→Bool)(k:Nat)(hk:k<4):(BE (Fk h p k))[k]?=some (Ad (word p k)):=by rw[ET _ k hk,Tk]
theorem Ul(f g:Nat→Bool)(i:Nat)(w:BitVec 64)(hi:i<4)(hw:word g i=w)(ho:∀j,j<4→j≠i→word g j=word f j):(BE f).setIfInBounds i (Ad w)=BE g:=by
 apply Array.ext_getElem?
 intro j
 rw[Array.getElem?_setIfInBounds]
 by_cases hj:j<4
 ·rw[ET _ j hj,ET _ j hj]
  by_cases e:i=j
  ·subst e;simp[Fp,hi,hw]
  ·simp[e];rw[ho j hj (fun x=>e x.symm)]
 ·have h1:(BE f)[j]?=none:=by simp[Fp];omega
  have h2:(BE g)[j]?=none:=by simp[Fp];omega
  rw[h1,h2,Fp]
  by_cases e:i=j
  ·omega
  ·simp[e]
theorem Lz(h p:Nat→Bool)(k:Nat)(w:BitVec 64)(hk:k<4)(hw:w=word h k):(BE (Fk h p k)).setIfInBounds k (Ad w)=BE (Fk h p (k+1)):=by
 refine Ul _ _ k w hk ?_ fun j hj hne=>?_
 ·rw[hw];apply BitVec.eq_of_getLsbD_eq;intro i hi;rw[A_,A_];simp only[Fk];rw[if_pos (by omega)]
 ·apply BitVec.eq_of_getLsbD_eq;intro i hi;rw[A_,A_];simp only[Fk]
  by_cases e:64*j+i<64*k
  ·rw[if_pos e,if_pos (by omega)]
  ·rw[if_neg e,if_neg (by omega)]
def PK(p:Nat→Bool)(k:Nat):List Nat:=(List.range k).filter p
def Ua(p:Nat→Bool)(k:Nat):Nat:=(PK p k).length
def DO(p:Nat→Bool):Nat:=((List.range 256).find? p).getD 0
def anyS(p:Nat→Bool):Bool:=((List.range 256).find? p).isSome
theorem PR(p:Nat→Bool)(k n:Nat)(hk:k<n)(h0:∀x,x<k→p x=false)(h:p k=true):(List.range n).find? p=some k:=by
 rw[show n=k+(n-k) by omega,List.range_add,List.find?_append]
 have h1:(List.range k).find? p=none:=by
  rw[List.find?_eq_none];intro x hx;simp[h0 x (List.mem_range.1 hx)]
 rw[h1,show n-k=(n-k-1)+1 by omega,List.range_succ_eq_map]
 simp[h]
theorem MI(p:Nat→Bool)(k:Nat)(hk:k<256)(h0:∀x,x<k→p x=false)(h:p k=true):DO p=k∧anyS p=true:=by
 simp[DO,anyS,PR p k 256 hk h0 h]
theorem Hs(p:Nat→Bool)(k:Nat)(hk:256≤k)(h0:∀x,x<k→p x=false):DO p=0∧anyS p=false:=by
 have h1:(List.range 256).find? p=none:=by
  rw[List.find?_eq_none];intro x hx;simp[h0 x (by have:=List.mem_range.1 hx;omega)]
 simp[DO,anyS,h1]
theorem RF(p:Nat→Bool)(k:Nat)(h0:∀x,x<k→p x=false)(h:p k=false):∀x,x<k+1→p x=false:=fun x hx=>by
 by_cases e:x=k
 ·subst e;exact h
 ·exact h0 x (by omega)
def Hb(a:Nat×Nat):List Value:=[.int .u8 (a.1:Int), .int .u8 (a.2:Int)]
def Fa:List (Nat×Nat)→Nat→List (Nat×Nat)
 | [],_=>[]
 | [a],k=>[(a.1,k)]
 |a::b::l,k=>a::Fa (b::l) k
theorem EN:∀(l:List (Nat×Nat)) (k:Nat),(Fa l k).length=l.length
 | [],_=>rfl
 | [a],_=>rfl
 |a::b::l,k=>by simp[Fa,EN (b::l) k]
theorem IF:∀(l:List (Nat×Nat)) (k:Nat),0<l.length→(l.flatMap Hb).set ((l.length-1)*2+1) (.int .u8 (k:Int))=(Fa l k).flatMap Hb
 | [],_,h=>by simp at h
 | [a],k,_=>by simp[Fa,Hb]
 |a::b::l,k,_=>by
  have ih:=IF (b::l) k (by simp)
  simp only[Fa,List.flatMap_cons]at ih⊢
  rw[←ih]
  simp only[Hb,List.length_cons]
  rw[show(l.length+1+1-1)*2+1=((l.length+1-1)*2+1)+1+1 by omega]
  rfl
def Ch(p:Nat→Bool):Nat→List (Nat×Nat)
 |0=>[]
 |k+1=>if p k then(if 0<k∧p (k-1)=true then Fa (Ch p k) k else Ch p k++[(k,k)])else Ch p k
theorem J5(p:Nat→Bool):Ch p 0=[]:=rfl
theorem D5(p:Nat→Bool)(k:Nat)(h:p k=false):Ch p (k+1)=Ch p k:=by simp[Ch,h]
theorem Jj(p:Nat→Bool)(k:Nat)(h:p k=true)(h0:0<k)(h1:p (k-1)=true):Ch p (k+1)=Fa (Ch p k) k:=by simp[Ch,h,h0,h1]
theorem Ji(p:Nat→Bool)(k:Nat)(h:p k=true)(h1:¬(0<k∧p (k-1)=true)):Ch p (k+1)=Ch p k++[(k,k)]:=by
 simp only[Ch,h,if_true];rw[if_neg h1]
theorem Lm(p:Nat→Bool):∀k,(Ch p k).length≤k
 |0=>by simp[Ch]
 |k+1=>by
  have:=Lm p k
  simp only[Ch]
  split
  ·split
   ·rw[EN];omega
   ·simp;omega
  ·omega
theorem J4(p:Nat→Bool)(k:Nat)(h0:0<k)(h:p (k-1)=true):0<(Ch p k).length:=by
 obtain⟨j,rfl⟩:∃j,k=j+1:=⟨k-1,by omega⟩
 simp only[Nat.add_sub_cancel]at h
 by_cases h1:0<j∧p (j-1)=true
 ·rw[Jj p j h h1.1 h1.2,EN]
  exact J4 p j h1.1 h1.2
 ·rw[Ji p j h h1];simp
theorem SJ(p:Nat→Bool)(k:Nat)(h:p k=true)(h0:0<k)(h1:p (k-1)=true):(Ch p (k+1)).length=(Ch p k).length:=by rw[Jj p k h h0 h1,EN]
theorem Rw(p:Nat→Bool)(k:Nat)(h:p k=true)(h0:0<k)(h1:p (k-1)=true):((Ch p k).flatMap Hb).set (((Ch p k).length-1)*2+1) (.int .u8 (k:Int))=(Ch p (k+1)).flatMap Hb:=by
 rw[Jj p k h h0 h1,IF _ _ (J4 p k h0 h1)]
theorem T4(a:Nat×Nat):(Hb a).length=2:=rfl
theorem SK(p:Nat→Bool)(k:Nat):((Ch p k).flatMap Hb).length=(Ch p k).length*2:=Gc Hb 2 T4 _
def IA(p:Nat→Bool)(b:Int):Bool:=decide (0≤b)&&decide (b<256)&&p b.toNat
def U0(p:Nat→Bool):Nat→Nat→Nat
 |0,y=>y
 |f+1,y=>if IA p ((y:Int)+1)then U0 p f (y+1)else y
def re(p:Nat→Bool)(y:Nat):Nat:=U0 p (256-y) y
theorem U4(p:Nat→Bool)(y:Nat)(hy:y≤255)(h:IA p ((y:Int)+1)=true):re p (y+1)=re p y:=by
 unfold re
 rw[show 256-y=(256-(y+1))+1 by omega]
 simp[U0,h]
theorem U3(p:Nat→Bool)(y:Nat)(hy:y≤255)(h:IA p ((y:Int)+1)=false):re p y=y:=by
 unfold re
 rw[show 256-y=(255-y)+1 by omega]
 simp[U0,h]
def WI(p:Nat→Bool)(k:Nat):List (Nat×Nat):=((List.range k).filter fun x=>p x&& !IA p ((x:Int)-1)).map fun x=>(x,re p x)
theorem SF(p:Nat→Bool)(k:Nat):WI p k=((List.range k).filter fun x=>p x&& !IA p ((x:Int)-1)).map fun x=>(x,re p x):=rfl
theorem TL(p:Nat→Bool)(b:Int)(h:b<0):IA p b=false:=by simp[IA];intro h';omega
theorem TM(p:Nat→Bool)(b:Int)(h:256≤b):IA p b=false:=by simp[IA];intro _ h';omega
theorem Vr(p:Nat→Bool)(n:Nat)(h:n<256):IA p (n:Int)=p n:=by
 have h1:(n:Int)<256:=by omega
 have h0:(0:Int)≤n:=by omega
 simp[IA,h1,h0]
attribute [irreducible] Ua DO anyS PK Ch WI IA re
end Go.GK
namespace Go.GK
abbrev St:=Nat→Bool
def IM(p:St):List Value:=(BE p).toList
theorem Q6(p:St):(IM p).length=4:=rfl
def nth(l:List St)(i:Nat):St:=l.getD i (fun _=>false)
theorem Oq(l:List St)(i:Nat)(h:i<l.length):l[i]?=some (nth l i):=by simp[nth,h]
theorem PW(l:List St)(i:Nat)(h:i<l.length):∀j u,(IM (nth l i))[j]?=some u→(l.flatMap IM)[i*4+j]?=some u:=fun j u hu=>by
 have hj:j<4:=by have:=(List.getElem?_eq_some_iff.1 hu).1;rwa [Q6]at this
 rw[OL IM 4 Q6 l i j _ (Oq l i h) hj];exact hu
theorem PV(p:St):IM p≠ []:=by simp[IM,BE]
theorem Eh(l:List St)(i:Nat)(h:i<l.length):l.take (i+1)=l.take i++[nth l i]:=by
 rw[List.take_add_one,Oq l i h];rfl
def E_(l:List St)(x y:Nat):Bool:=l.all fun p=>p x==p y
def cls(l:List St)(x y:Nat):Bool:=decide (x≤y)&&E_ l x y
def HS(l:List St):Nat→List St×St
 |0=>([],fun _=>false)
 |k+1=>if(HS l k).2 k then HS l k else((HS l k).1++[cls l k],fun y=>(HS l k).2 y||cls l k y)
theorem Rt(l:List St):HS l 0=([],fun _=>false):=rfl
theorem Ru(l:List St)(k:Nat)(h:(HS l k).2 k=true):HS l (k+1)=HS l k:=by simp[HS,h]
theorem SG(l:List St)(k:Nat)(h:(HS l k).2 k=false):HS l (k+1)=((HS l k).1++[cls l k],fun y=>(HS l k).2 y||cls l k y):=by simp[HS,h]
def ne(p:St):Bool:= !Mh p (fun _=>false)
def D8(p s:St):St:=fun x=>p x&&s x
def D7(p s:St):St:=fun x=>p x&&(fun y=> !s y) x
def NS(a b:St)(j:Nat):St:=if j=0 then a else b
def two(p s:St)(j:Nat):List St:=([D8 p s,D7 p s].take j).filter ne
def Dh(ps:List St)(s:St):List St:=ps.flatMap fun p=>two p s 2
def AY(l:List St)(i:Nat):List St:=(l.take i).foldl Dh [Sc 0 255]
def nx(l:List St)(i m j:Nat):List St:=Dh ((AY l i).take m) (nth l i)++two (nth (AY l i) m) (nth l i) j
theorem Im(l:List St):AY l 0=[Sc 0 255]:=rfl
theorem J6(l:List St)(i:Nat)(h:i<l.length):AY l (i+1)=Dh (AY l i) (nth l i):=by
 simp[AY,Eh l i h,List.foldl_append]
theorem NY(p s:St):two p s 0=[]:=rfl
theorem Ql(l:List St)(i:Nat):nx l i 0 0=[]:=rfl
theorem UN(p s:St)(j:Nat)(hj:j<2)(h:ne (NS (D8 p s) (D7 p s) j)=true):two p s (j+1)=two p s j++[NS (D8 p s) (D7 p s) j]:=by
 match j,hj with
 |0,_=>simp[two,NS]at h⊢;simp[List.filter_cons,h]
 |1,_=>simp only[two,NS]at h⊢;simp only[List.take_succ_cons,List.take_zero,List.filter_cons,List.filter_nil];simp at h;rw[h];split<;>simp
theorem Sr(p s:St)(j:Nat)(hj:j<2)(h:ne (NS (D8 p s) (D7 p s) j)=false):two p s (j+1)=two p s j:=by
 match j,hj with
 |0,_=>simp[two,NS]at h⊢;simp[List.filter_cons,h]
 |1,_=>simp only[two,NS]at h⊢;simp only[List.take_succ_cons,List.take_zero,List.filter_cons,List.filter_nil];simp at h;rw[h];simp
theorem S6(l:List St)(i m j:Nat)(hj:j<2)(h:ne (NS (D8 (nth (AY l i) m) (nth l i)) (D7 (nth (AY l i) m) (nth l i)) j)=true):nx l i m (j+1)=nx l i m j++[NS (D8 (nth (AY l i) m) (nth l i)) (D7 (nth (AY l i) m) (nth l i)) j]:=by
 simp[nx,UN _ _ j hj h]
theorem Qm(l:List St)(i m j:Nat)(hj:j<2)(h:ne (NS (D8 (nth (AY l i) m) (nth l i)) (D7 (nth (AY l i) m) (nth l i)) j)=false):nx l i m (j+1)=nx l i m j:=by
 simp[nx,Sr _ _ j hj h]
theorem Qn(l:List St)(i m:Nat)(hm:m<(AY l i).length):nx l i (m+1) 0=nx l i m 2:=by
 simp[nx,NY,Eh _ m hm,Dh]
theorem Qo(l:List St)(i m:Nat)(hi:i<l.length)(hm:(AY l i).length≤m):nx l i m 0=AY l (i+1):=by
 simp[nx,NY,J6 l i hi,List.take_of_length_le hm]
def cn(p:St):Nat:=Ua p 256
theorem OW(p:St):cn p=((List.range 256).filter p).length:=by unfold cn Ua PK;rfl
theorem JI(p s:St):∀l:List Nat,(l.filter (D8 p s)).length+(l.filter (D7 p s)).length=(l.filter p).length
 | []=>rfl
 |x::l=>by
  have ih:=JI p s l
  have ha:D8 p s x=(p x&&s x):=rfl
  have hb:D7 p s x=(p x&& !s x):=rfl
  cases hp:p x<;>cases hs:s x<;>simp[List.filter_cons,ha,hb,hp,hs]<;>omega
theorem Ub(p s:St):cn (D8 p s)+cn (D7 p s)=cn p:=by rw[OW,OW,OW];exact JI p s _
theorem Xi(p:St)(h:ne p=true):1≤cn p:=by
 rw[OW]
 simp only[ne,Bool.not_eq_true',←Bool.not_eq_true,KP]at h
 have:∃x,x<256∧p x=true:=by
  refine Classical.byContradiction fun hn=>h fun x hx=>?_
  cases hp:p x with
  |false=>simp
  |true=>exact absurd ⟨x,hx,hp⟩ hn
 obtain⟨x,hx,hp⟩:=this
 exact List.length_pos_of_mem (List.mem_filter.2 ⟨List.mem_range.2 hx,hp⟩)
def JU(ps:List St):Nat:=(ps.map cn).sum
theorem IV(a b:List St):JU (a++b)=JU a+JU b:=by simp[JU]
theorem NZ(p s:St)(j:Nat):(∀q∈two p s j,ne q=true)∧JU (two p s j)≤cn p:=by
 refine⟨fun q hq=>(List.mem_filter.1 hq).2,?_⟩
 have hs:=Ub p s
 match j with
 |0=>simp[two,JU]
 |1=>simp only[two,List.take_succ_cons,List.take_zero,List.filter_cons,List.filter_nil];split<;>simp[JU]<;>omega
 |j+2=>
  simp only[two,List.take_succ_cons,List.filter_cons]
  rw[show([]:List St).take j=[]from List.take_nil]
  simp only[List.filter_nil]
  split<;>split<;>simp[JU]<;>omega
theorem Mw(ps:List St)(s:St):(∀q∈Dh ps s,ne q=true)∧JU (Dh ps s)≤JU ps:=by
 induction ps with
 |nil=>simp[Dh,JU]
 |cons p ps ih=>
  have h2:=NZ p s 2
  have e:Dh (p::ps) s=two p s 2++Dh ps s:=by simp[Dh]
  rw[e]
  refine⟨fun q hq=>?_,?_⟩
  ·rcases List.mem_append.1 hq with h|h
   ·exact h2.1 q h
   ·exact ih.1 q h
  ·rw[IV]
   have:JU (p::ps)=cn p+JU ps:=by simp[JU]
   omega
theorem QG(ps:List St)(h:∀q∈ps,ne q=true):ps.length≤JU ps:=by
 induction ps with
 |nil=>simp[JU]
 |cons p ps ih=>
  have:=ih fun q hq=>h q (by simp[hq])
  have h1:=Xi p (h p (by simp))
  have:JU (p::ps)=cn p+JU ps:=by simp[JU]
  simp only[List.length_cons];omega
theorem Vs:ne (Sc 0 255)=true:=by decide+kernel
theorem Ip(l:List St):∀i,(∀q∈AY l i,ne q=true)∧JU (AY l i)≤256
 |0=>by
  refine⟨fun q hq=>?_,?_⟩
  ·rw[Im]at hq;simp at hq;rw[hq];exact Vs
  ·rw[Im];simp[JU,OW];have:=List.length_filter_le (Sc 0 255) (List.range 256);simpa using this
 |i+1=>by
  have ih:=Ip l i
  by_cases h:i<l.length
  ·rw[J6 l i h]
   have:=Mw (AY l i) (nth l i)
   exact⟨this.1,Nat.le_trans this.2 ih.2⟩
  ·have e:AY l (i+1)=AY l i:=by simp[AY,List.take_of_length_le (show l.length≤i+1 by omega),List.take_of_length_le (show l.length≤i by omega)]
   rw[e];exact ih
theorem Ol(l:List St)(i:Nat):(AY l i).length≤256:=Nat.le_trans (QG _ (Ip l i).1) (Ip l i).2
theorem Ss(ps:List St)(m:Nat)(h:m<ps.length):JU (ps.take m)+cn (nth ps m)≤JU ps:=by
 have e:ps=ps.take m++nth ps m::ps.drop (m+1):=by
  have:nth ps m=ps[m]:=by simp[nth,h]
  rw[this,List.getElem_cons_drop,List.take_append_drop]
 have:JU ps=JU (ps.take m)+(cn (nth ps m)+JU (ps.drop (m+1))):=by
  conv=>lhs;rw[e]
  rw[IV];simp[JU]
 omega
theorem WQ(l:List St)(i m j:Nat)(hm:m<(AY l i).length):(nx l i m j).length≤256:=by
 have h1:=Mw ((AY l i).take m) (nth l i)
 have h2:=NZ (nth (AY l i) m) (nth l i) j
 have h3:=Ss (AY l i) m hm
 have h4:=(Ip l i).2
 refine Nat.le_trans (QG _ fun q hq=>?_) (?_:JU (nx l i m j)≤256)
 ·rcases List.mem_append.1 hq with h|h
  ·exact h1.1 q h
  ·exact h2.1 q h
 ·unfold nx;rw[IV];omega
def N7(b:Nat)(s:List St×St)(p:St):List St×St:=if p b then(s.1++[p],fun y=>s.2 y||p y)else s
def Cg(ps:List St):Nat→List St×St
 |0=>([],fun _=>false)
 |b+1=>if(Cg ps b).2 b then Cg ps b else ps.foldl (N7 b) (Cg ps b)
def Ez(ps:List St)(b m:Nat):List St×St:=(ps.take m).foldl (N7 b) (Cg ps b)
theorem I0(ps:List St):Cg ps 0=([],fun _=>false):=rfl
theorem F_(ps:List St)(b:Nat)(h:(Cg ps b).2 b=true):Cg ps (b+1)=Cg ps b:=by simp[Cg,h]
theorem GX(ps:List St)(b m:Nat)(h:(Cg ps b).2 b=false)(hm:ps.length≤m):Cg ps (b+1)=Ez ps b m:=by simp[Cg,Ez,h,List.take_of_length_le hm]
theorem Lt(ps:List St)(b:Nat):Ez ps b 0=Cg ps b:=rfl
theorem MD(ps:List St)(b m:Nat)(hm:m<ps.length)(h:(nth ps m) b=true):Ez ps b (m+1)=((Ez ps b m).1++[nth ps m],fun y=>(Ez ps b m).2 y||(nth ps m) y):=by
 simp only[Ez,Eh ps m hm,List.foldl_append,List.foldl_cons,List.foldl_nil]
 simp[N7,h]
theorem Lu(ps:List St)(b m:Nat)(hm:m<ps.length)(h:(nth ps m) b=false):Ez ps b (m+1)=Ez ps b m:=by
 simp only[Ez,Eh ps m hm,List.foldl_append,List.foldl_cons,List.foldl_nil]
 simp[N7,h]
theorem Gb(b:Nat):∀(ps:List St) (s:List St×St),(ps.foldl (N7 b) s).1.length≤s.1.length+ps.length
 | [],s=>by simp
 |p::ps,s=>by
  have:=Gb b ps (N7 b s p)
  have h2:(N7 b s p).1.length≤s.1.length+1:=by unfold N7;split<;>simp
  simp only[List.foldl_cons,List.length_cons];omega
theorem J9(ps:List St)(h:ps.length≤256):∀b,(Cg ps b).1.length≤256*b
 |0=>by simp[Cg]
 |b+1=>by
  have ih:=J9 ps h b
  simp only[Cg];split
  ·omega
  ·have:=Gb b ps (Cg ps b);omega
theorem RB(ps:List St)(h:ps.length≤256)(b m:Nat):(Ez ps b m).1.length≤256*b+256:=by
 have h1:=J9 ps h b
 have h2:=Gb b (ps.take m) (Cg ps b)
 have h3:(ps.take m).length≤256:=by simp;omega
 unfold Ez;omega
def partsOf(l:List St):List St:=(Cg (AY l l.length) 256).1
theorem VD(p s:St):Value.agg (BE (fun x=>p x&&s x))= .agg (BE (D8 p s)):=rfl
theorem VB(p s:St):Value.agg (BE (fun x=>p x&&(fun y=> !s y) x))= .agg (BE (D7 p s)):=rfl
theorem ne_eq(p:St):(!Mh p (fun _=>false))=ne p:=rfl
def Um(a b:St):Array Value:= #[Ad (word a 0),Ad (word a 1),Ad (word a 2),Ad (word a 3),Ad (word b 0),Ad (word b 1),Ad (word b 2),Ad (word b 3)]
theorem VO(a b:St)(j:Nat)(h:j<2):Value.agg ((Um a b).extract ((j:Int).toNat*4) ((j:Int).toNat*4+4))= .agg (BE (NS a b j)):=by
 match j,h with
 |0,_=>rfl
 |1,_=>rfl
theorem Yj(z0 z1 z2 z3 z4 z5 z6 z7 x0 x1 x2 x3 x4 x5 x6 x7:Value):Instr.fill (fun i=>some (i*4,4)) #[z0,z1,z2,z3,z4,z5,z6,z7] [(0, .agg #[x0,x1,x2,x3]),(1, .agg #[x4,x5,x6,x7])]=some #[x0,x1,x2,x3,x4,x5,x6,x7]:=by
 simp[Instr.fill,Value.cells]
theorem Yk(a b:St):Instr.fill (fun i=>some (i*4,4)) #[.int .u64 0, .int .u64 0, .int .u64 0, .int .u64 0, .int .u64 0, .int .u64 0, .int .u64 0, .int .u64 0] [(0, .agg (BE a)),(1, .agg (BE b))]=some (Um a b):=Yj _ _ _ _ _ _ _ _ _ _ _ _ _ _ _ _
theorem P0(l:List St)(x y:Nat):E_ l x y=l.all fun p=>p x==p y:=rfl
theorem KT(p s:St)(x:Nat):D8 p s x=(p x&&s x):=rfl
theorem KS(p s:St)(x:Nat):D7 p s x=(p x&& !s x):=rfl
theorem Xj(l:List St)(x y:Nat):cls l x y=(decide (x≤y)&&E_ l x y):=rfl
theorem RC(ps:List St)(b:Nat):Ez ps b ps.length=ps.foldl (N7 b) (Cg ps b):=by simp[Ez]
attribute [irreducible] E_ HS AY nx Cg Ez nth cls ne D8 D7
end Go.GK
namespace Go.GK
theorem Km:∀(L:List (Nat×Nat)) (s e k:Nat),Fa (L++[(s,e)]) k=L++[(s,k)]
 | [],_,_,_=>rfl
 | [a],s,e,k=>rfl
 |a::b::L,s,e,k=>by
  have:=Km (b::L) s e k
  simp only[List.cons_append,Fa]at this⊢
  rw[this]
structure YU(p:Nat→Bool)(k:Nat)(l:List (Nat×Nat)):Prop where
 run:∀a∈l,a.1≤a.2∧a.2<k∧∀z,a.1≤z→z≤a.2→p z=true
 apart:l.Pairwise fun a b=>a.2+2≤b.1
 all:∀z,z<k→p z=true→∃a∈l,a.1≤z∧z≤a.2
 last:0<k→p (k-1)=true→∃L s,l=L++[(s,k-1)]
theorem GA (p : Nat → Bool) : ∀ k, YU p k (Ch p k)
  | 0 => by
    rw [J5]
    exact ⟨fun a h => by simp at h, .nil, fun z h => by omega, fun h => by omega⟩
  | k + 1 => by
    have ih := GA p k
    by_cases hp : p k = true
    · by_cases hq : 0 < k ∧ p (k - 1) = true
      · rw [Jj p k hp hq.1 hq.2]
        obtain ⟨L, s, hL⟩ := ih.last hq.1 hq.2
        rw [hL, Km]
        have hrun := ih.run; have hap := ih.apart; have hall := ih.all
        rw [hL] at hrun hap hall
        have hs := hrun (s, k - 1) (by simp)
        refine ⟨fun a ha => ?_, ?_, fun z hz hpz => ?_, fun _ _ => ⟨L, s, by simp⟩⟩
        · rcases List.mem_append.1 ha with h | h
          · have := hrun a (by simp [h]); exact ⟨this.1, by omega, this.2.2⟩
          · simp at h; subst h
            refine ⟨by simp only at hs ⊢; omega, by simp, fun z h1 h2 => ?_⟩
            simp only at h1 h2 hs
            by_cases e : z = k
            · subst e; exact hp
            · exact hs.2.2 z h1 (by omega)
        · rw [List.pairwise_append] at hap ⊢
          refine ⟨hap.1, by simp, fun a ha b hb => ?_⟩
          simp at hb; subst hb
          exact hap.2.2 a ha (s, k - 1) (by simp)
        · by_cases e : z = k
          · subst e; exact ⟨(s, z), by simp, by simp only at hs ⊢; omega, by simp⟩
          · obtain ⟨a, ha, h1, h2⟩ := hall z (by omega) hpz
            rcases List.mem_append.1 ha with h | h
            · exact ⟨a, by simp [h], h1, h2⟩
            · simp at h; subst h
              exact ⟨(s, k), by simp, h1, by simp only at h2 ⊢; omega⟩
      · rw [Ji p k hp hq]
        refine ⟨fun a ha => ?_, ?_, fun z hz hpz => ?_, fun _ _ => ⟨Ch p k, k, by simp⟩⟩
        · rcases List.mem_append.1 ha with h | h
          · have := ih.run a h; exact ⟨this.1, by omega, this.2.2⟩
          · simp at h; subst h
            exact ⟨by simp, by simp, fun z h1 h2 => by simp only at h1 h2; have : z = k := by omega
                                                       subst this; exact hp⟩
        · rw [List.pairwise_append]
          refine ⟨ih.apart, by simp, fun a ha b hb => ?_⟩
          simp at hb; subst hb
          have h1 := ih.run a ha
          have h2 : a.2 ≠ k - 1 := fun e => hq ⟨by omega, by rw [← e]; exact h1.2.2 a.2 h1.1 (Nat.le_refl _)⟩
          simp only; omega
        · by_cases e : z = k
          · subst e; exact ⟨(z, z), by simp, Nat.le_refl _, Nat.le_refl _⟩
          · obtain ⟨a, ha, h1, h2⟩ := ih.all z (by omega) hpz
            exact ⟨a, by simp [ha], h1, h2⟩
    · have hp' : p k = false := by simpa using hp
      rw [D5 p k hp']
      refine ⟨fun a ha => ?_, ih.apart, fun z hz hpz => ?_, fun _ h => ?_⟩
      · have := ih.run a ha; exact ⟨this.1, by omega, this.2.2⟩
      · have hne : z ≠ k := fun e => by rw [e, hp'] at hpz; cases hpz
        exact ih.all z (by omega) hpz
      · simp at h; rw [hp'] at h; cases h
theorem JE(p:Nat→Bool)(n:Nat):IA p (n:Int)=true↔n<256∧p n=true:=by
 by_cases h:n<256
 ·rw[Vr p n h];simp[h]
 ·rw[TM p n (by omega)];simp[h]
theorem Qg(p:Nat→Bool):∀(d y:Nat),255-y=d→y≤255→y≤re p y∧re p y≤255∧(∀z,y<z→z≤re p y→p z=true)∧¬(re p y+1<256∧p (re p y+1)=true)
 |d,y,hd,hy=>by
  cases h:IA p ((y:Int)+1)with
  |true=>
   have h1:=(JE p (y+1)).1 (by simpa using h)
   have ih:=Qg p (255-(y+1)) (y+1) rfl (by omega)
   rw[U4 p y hy h]at ih
   refine⟨by omega,ih.2.1,fun z h2 h3=>?_,ih.2.2.2⟩
   by_cases e:z=y+1
   ·subst e;exact h1.2
   ·exact ih.2.2.1 z (by omega) h3
  |false=>
   rw[U3 p y hy h]
   refine⟨Nat.le_refl _,hy,fun z h1 h2=>by omega,fun h1=>?_⟩
   have:=(JE p (y+1)).2 h1
   simp at this;rw[this]at h;cases h
 termination_by d=>d
 decreasing_by omega
theorem U2(p:Nat→Bool)(y e:Nat)(h1:y≤e)(h2:e≤255)(h3:∀z,y<z→z≤e→p z=true)(h4:¬(e+1<256∧p (e+1)=true)):re p y=e:=by
 obtain⟨g1,g2,g3,g4⟩:=Qg p _ y rfl (by omega)
 rcases Nat.lt_trichotomy (re p y) e with h|h|h
 ·exact absurd ⟨by omega,h3 _ (by omega) (by omega)⟩ g4
 ·exact h
 ·exact absurd ⟨by omega,g3 _ (by omega) (by omega)⟩ h4
theorem K9:∀(a b:List Nat),a.Pairwise (· < ·)→b.Pairwise (· < ·)→(∀x,x∈a↔x∈b)→a=b
 | [],[],_,_,_=>rfl
 | [],y::b,_,_,h=>by have:=(h y).2 (by simp);simp at this
 |x::a,[],_,_,h=>by have:=(h x).1 (by simp);simp at this
 |x::a,y::b,ha,hb,h=>by
  rw[List.pairwise_cons]at ha hb
  have hxy:x=y:=by
   have h1:=(h x).1 (by simp)
   have h2:=(h y).2 (by simp)
   rcases List.mem_cons.1 h1 with h1|h1
   ·exact h1
   ·rcases List.mem_cons.1 h2 with h2|h2
    ·exact h2.symm
    ·have:=hb.1 x h1;have:=ha.1 y h2;omega
  subst hxy
  congr 1
  refine K9 a b ha.2 hb.2 fun z=>⟨fun hz=>?_,fun hz=>?_⟩
  ·rcases List.mem_cons.1 ((h z).1 (by simp[hz]))with e|e
   ·have:=ha.1 z hz;omega
   ·exact e
  ·rcases List.mem_cons.1 ((h z).2 (by simp[hz]))with e|e
   ·have:=hb.1 z hz;omega
   ·exact e
theorem Nc(n:Nat):(List.range n).Pairwise (· < ·):=List.pairwise_lt_range
theorem WL{l:List (Nat×Nat)}(h:l.Pairwise fun a b=>a.2+2≤b.1){a b:Nat×Nat}(ha:a∈l)(hb:b∈l):a=b∨a.2+2≤b.1∨b.2+2≤a.1:=by
 induction l with
 |nil=>simp at ha
 |cons x l ih=>
  rw[List.pairwise_cons]at h
  rcases List.mem_cons.1 ha with e1|ha'
  ·rcases List.mem_cons.1 hb with e2|hb'
   ·exact .inl (e1.trans e2.symm)
   ·exact .inr (.inl (e1▸h.1 b hb'))
  ·rcases List.mem_cons.1 hb with e2|hb'
   ·exact .inr (.inr (e2▸h.1 a ha'))
   ·exact ih h.2 ha' hb'
theorem Zy(p:Nat→Bool):Ch p 256=WI p 256:=by
 have I:=GA p 256
 generalize hl:Ch p 256=l at I
 have inside:∀a∈l,∀z,z<256→p z=true→z+1=a.1∨z=a.2+1→False:=by
  intro a ha z hz hpz h
  obtain⟨b,hb,h1,h2⟩:=I.all z hz hpz
  have r1:=I.run a ha
  rcases WL I.apart ha hb with e|e|e
  ·subst e;omega
  ·omega
  ·omega
 have hre:∀a∈l,a=(a.1,re p a.1):=by
  intro a ha
  have r1:=I.run a ha
  have:re p a.1=a.2:=U2 p a.1 a.2 r1.1 (by omega) (fun z h1 h2=>r1.2.2 z (by omega) h2) (fun⟨h1,h2⟩=>inside a ha _ h1 h2 (.inr rfl))
  rw[this]
 have hmap:l=(l.map (·.1)).map fun x=>(x,re p x):=by
  rw[List.map_map]
  conv=>lhs;rw[←List.map_id l]
  exact List.map_congr_left fun a ha=>hre a ha
 rw[hmap]
 rw[SF]
 congr 1
 refine K9 _ _ ?_ ((Nc 256).filter _) fun x=>?_
 ·rw[List.pairwise_map]
  refine(I.apart.imp_of_mem fun{a b} ha _ h=>?_)
  have:=(I.run a ha).1
  omega
 ·simp only[List.mem_map,List.mem_filter,List.mem_range,Bool.and_eq_true,Bool.not_eq_true']
  constructor
  ·rintro⟨a,ha,rfl⟩
   have r1:=I.run a ha
   refine⟨by omega,r1.2.2 a.1 (Nat.le_refl _) r1.1,?_⟩
   cases h:IA p ((a.1:Int)-1)with
   |false=>rfl
   |true=>
    exfalso
    by_cases h0:a.1=0
    ·rw[h0]at h;rw[TL p _ (by omega)]at h;cases h
    ·have e:((a.1:Int)-1)=((a.1-1:Nat):Int):=by omega
     rw[e]at h
     have:=(JE p (a.1-1)).1 h
     exact inside a ha (a.1-1) this.1 this.2 (.inl (by omega))
  ·rintro⟨hx,hp,hs⟩
   obtain⟨a,ha,h1,h2⟩:=I.all x hx hp
   refine⟨a,ha,?_⟩
   rcases Nat.lt_or_ge a.1 x with h|h
   ·exfalso
    have r1:=I.run a ha
    have:IA p ((x:Int)-1)=true:=by
     have e:((x:Int)-1)=((x-1:Nat):Int):=by omega
     rw[e];exact(JE p (x-1)).2 ⟨by omega,r1.2.2 _ (by omega) (by omega)⟩
    rw[this]at hs;cases hs
   ·omega
def ZG(l:List (Nat×Nat)):Nat:=(l.map fun a=>a.2+1-a.1).sum
end Go.GK
namespace Go.GK
theorem FV(l:List St)(x y:Nat):E_ l x y=true↔∀s∈l,s x=s y:=by
 rw[P0,List.all_eq_true];simp
theorem PZ{l:List St}{x y:Nat}(h:E_ l x y=true):E_ l y x=true:=(FV l y x).2 fun s hs=>((FV l x y).1 h s hs).symm
structure Good(l ps:List St):Prop where
 cls:∀p∈ps,∀x y,x<256→y<256→p x=true→(p y=true↔E_ l x y=true)
 one:∀x,x<256→∃A p B,ps=A++p::B∧p x=true∧(∀q∈A,q x=false)∧∀q∈B,q x=false
theorem Qy{p s q:St}(h:q∈two p s 2):q=D8 p s∨q=D7 p s:=by
 have:=(List.mem_filter.1 h).1
 simpa using this
theorem Qx{p:St}{x:Nat}(hx:x<256)(h:p x=true):ne p=true:=by
 rw[←ne_eq]
 cases he:Mh p (fun _=>false)with
 |false=>rfl
 |true=>have:=KP.1 he x hx;rw[h]at this;cases this
theorem RT(l:List St)(ps:List St)(s:St)(h:Good l ps):Good (l++[s]) (Dh ps s):=by
 have al:∀x y,E_ (l++[s]) x y=true↔E_ l x y=true∧s x=s y:=fun x y=>by
  rw[FV,FV];simp[or_imp,forall_and]
 refine⟨fun q hq x y hx hy hqx=>?_,fun x hx=>?_⟩
 ·obtain⟨p,hp,hq2⟩:=List.mem_flatMap.1 hq
  have hc:=h.cls p hp x y hx hy
  rw[al]
  rcases Qy hq2 with e|e
  ·subst e
   rw[KT]at hqx⊢
   simp only[Bool.and_eq_true]at hqx⊢
   rw[hc hqx.1,hqx.2]
   exact⟨fun h=>⟨h.1,h.2.symm⟩,fun h=>⟨h.1,h.2.symm⟩⟩
  ·subst e
   rw[KS]at hqx⊢
   simp only[Bool.and_eq_true,Bool.not_eq_true']at hqx⊢
   rw[hc hqx.1,hqx.2]
   exact⟨fun h=>⟨h.1,h.2.symm⟩,fun h=>⟨h.1,h.2.symm⟩⟩
 ·obtain⟨A,p,B,hps,hpx,hA,hB⟩:=h.one x hx
  have none_in:∀C:List St,(∀q∈C,q x=false)→∀q∈Dh C s,q x=false:=by
   intro C hC q hq
   obtain⟨p',hp',hq2⟩:=List.mem_flatMap.1 hq
   rcases Qy hq2 with e|e
   ·subst e;rw[KT,hC p' hp'];rfl
   ·subst e;rw[KS,hC p' hp'];rfl
  have hstep:Dh ps s=Dh A s++(two p s 2++Dh B s):=by rw[hps];simp[Dh]
  have htwo:two p s 2=[D8 p s,D7 p s].filter ne:=rfl
  cases hsx:s x with
  |true=>
   have h1:D8 p s x=true:=by rw[KT,hpx,hsx];rfl
   have h2:D7 p s x=false:=by rw[KS,hpx,hsx];rfl
   have h3:=Qx hx h1
   rw[hstep,htwo]
   simp only[List.filter_cons,h3,if_true,List.filter_nil]
   refine⟨Dh A s,D8 p s,(if ne (D7 p s)=true then [D7 p s]else [])++Dh B s,by simp,h1,none_in A hA,fun q hq=>?_⟩
   rcases List.mem_append.1 hq with h|h
   ·split at h
    ·simp at h;subst h;exact h2
    ·simp at h
   ·exact none_in B hB q h
  |false=>
   have h1:D8 p s x=false:=by rw[KT,hpx,hsx];rfl
   have h2:D7 p s x=true:=by rw[KS,hpx,hsx];rfl
   have h3:=Qx hx h2
   rw[hstep,htwo]
   simp only[List.filter_cons,h3,if_true,List.filter_nil]
   refine⟨Dh A s++(if ne (D8 p s)=true then [D8 p s]else []),D7 p s,Dh B s,?_,h2,fun q hq=>?_,none_in B hB⟩
   ·split<;>simp
   ·rcases List.mem_append.1 hq with h|h
    ·exact none_in A hA q h
    ·split at h
     ·simp at h;subst h;exact h1
     ·simp at h
theorem MC(l:List St):∀i,i≤l.length→Good (l.take i) (AY l i)
 |0,_=>by
  rw[Im]
  refine⟨fun p hp x y hx hy _=>?_,fun x hx=>⟨[],Sc 0 255,[],rf,by simp[Sc];omega,by simp,by simp⟩⟩
  simp at hp;subst hp
  rw[FV];simp[Sc];omega
 |i+1,h=>by
  rw[J6 l i (by omega),Eh l i (by omega)]
  exact RT _ _ _ (MC l i (by omega))
theorem Lr(l:List St):Good l (AY l l.length):=by
 have:=MC l l.length (Nat.le_refl _)
 rwa [List.take_length]at this
theorem Ke(b:Nat):∀(A:List St) (s:List St×St),(∀q∈A,q b=false)→A.foldl (N7 b) s=s
 | [],s,_=>rfl
 |q::A,s,h=>by
  have:N7 b s q=s:=by simp[N7,h q (by simp)]
  rw[List.foldl_cons,this];exact Ke b A s fun q hq=>h q (by simp[hq])
theorem TN(b:Nat)(ps A B:List St)(p:St)(s:List St×St)(h:ps=A++p::B)(hp:p b=true)(hA:∀q∈A,q b=false)(hB:∀q∈B,q b=false):
  ps.foldl (N7 b) s=(s.1++[p],fun y=>s.2 y||p y):=by
 rw[h,List.foldl_append,Ke b A s hA,List.foldl_cons,Ke b B _ hB]
 simp[N7,hp]
structure NP(l:List St)(b:Nat)(out:List St)(sn:St):Prop where
 cls:∀q∈out,∀x y,x<256→y<256→q x=true→(q y=true↔E_ l x y=true)
 seen:∀x,x<256→(sn x=true↔∃q∈out,q x=true)
 upto:∀x,x<b→x<256→sn x=true
 apart:out.Pairwise fun p q=> ∀x,x<256→p x=true→q x=false
theorem S3(l:List St)(b:Nat)(hb:b<256)(out:List St)(seen p:St)(I:NP l b out seen)(hs:seen b=false)(hp:p b=true)(hc:∀x y,x<256→y<256→p x=true→(p y=true↔E_ l x y=true)):
  NP l (b+1) (out++[p]) (fun y=>seen y||p y):=by
 refine⟨fun q hq x y hx hy h=>?_,fun x hx=>?_,fun x h1 h2=>?_,?_⟩
 ·rcases List.mem_append.1 hq with h'|h'
  ·exact I.cls q h' x y hx hy h
  ·simp at h';subst h';exact hc x y hx hy h
 ·simp only[Bool.or_eq_true,I.seen x hx,List.mem_append,List.mem_singleton]
  constructor
  ·rintro(⟨q,hq,h⟩|h)
   ·exact⟨q, .inl hq,h⟩
   ·exact⟨p, .inr rf,h⟩
  ·rintro⟨q,hq|rfl,h⟩
   ·exact .inl ⟨q,hq,h⟩
   ·exact .inr h
 ·by_cases e:x=b
  ·subst e;simp[hp]
  ·simp[I.upto x (by omega) h2]
 ·rw[List.pairwise_append]
  refine⟨I.apart,by simp,fun q hq p' hp' x hx hqx=>?_⟩
  simp at hp';subst hp'
  cases hpx:p' x with
  |false=>rfl
  |true=>
   exfalso
   have h1:=(hc x b hx hb hpx).1 hp
   have h2:=(I.cls q hq x b hx hb hqx).2 h1
   have h3:=(I.seen b hb).2 ⟨q,hq,h2⟩
   rw[hs]at h3;cases h3
theorem On(l:List St):∀b,b≤256→NP l b (Cg (AY l l.length) b).1 (Cg (AY l l.length) b).2∧
  (Cg (AY l l.length) b).1.map BE=(HS l b).1.map BE∧∀x,x<256→(Cg (AY l l.length) b).2 x=(HS l b).2 x
 |0,_=>by
  rw[I0,Rt]
  exact⟨⟨by simp,by simp,by simp,by simp⟩,rf,fun _ _=>rfl⟩
 |b+1,h=>by
  obtain⟨I,e1,e2⟩:=On l b (by omega)
  cases hs:(Cg (AY l l.length) b).2 b with
  |true=>
   rw[F_ _ b hs,Ru l b (by rw[←e2 b (by omega)];exact hs)]
   refine⟨⟨I.cls,I.seen,fun x h1 h2=>?_,I.apart⟩,e1,e2⟩
   by_cases e:x=b
   ·subst e;exact hs
   ·exact I.upto x (by omega) h2
  |false=>
   obtain⟨A,p,B,hps,hpb,hA,hB⟩:=(Lr l).one b (by omega)
   have hfold:=TN b _ A B p (Cg (AY l l.length) b) hps hpb hA hB
   have hnew:Cg (AY l l.length) (b+1)=((Cg (AY l l.length) b).1++[p],fun y=>(Cg (AY l l.length) b).2 y||p y):=by
    rw[GX _ b (AY l l.length).length hs (Nat.le_refl _),RC,hfold]
   have hmem:p∈AY l l.length:=by rw[hps];simp
   have hc:=(Lr l).cls p hmem
   rw[hnew,SG l b (by rw[←e2 b (by omega)];exact hs)]
   have hpc:∀y,y<256→p y=cls l b y:=fun y hy=>by
    rw[Bool.eq_iff_iff,hc b y (by omega) hy hpb,Xj]
    simp only[Bool.and_eq_true,decide_eq_true_eq]
    refine⟨fun h1=>⟨?_,h1⟩,fun h1=>h1.2⟩
    rcases Nat.lt_or_ge y b with h2|h2
    ·exfalso
     have h3:=I.upto y h2 hy
     obtain⟨q,hq,hqy⟩:=(I.seen y hy).1 h3
     have h4:=(I.cls q hq y b hy (by omega) hqy).2 (PZ h1)
     have h5:=(I.seen b (by omega)).2 ⟨q,hq,h4⟩
     rw[hs]at h5;cases h5
    ·exact h2
   refine⟨S3 l b (by omega) _ _ p I hs hpb hc,?_,fun x hx=>?_⟩
   ·simp only[List.map_append,List.map_cons,List.map_nil,e1]
    rw[EE hpc]
   ·simp only[e2 x hx,hpc x hx]
end Go.GK
namespace Go.GK
section
variable {H : Type} {enc : TypeId × Value → H} {P : Program} {w : World} {base : Nat} {spare : Nat → Bool} {held : Bool}
theorem M3{e:TypeId}{n:Nat}{c:Value}{y:DataW H×List MemPlace}(he:P.underlying e=some (.int .u64))(h:DataW.trod enc P w base spare held n e [c]=some y):∃a:BitVec 64,c=Ad a:=by
 obtain⟨m,h1,_,h2⟩:=DataW.trod_int he h
 simp only[List.cons.injEq,and_true]at h1
 subst h1
 have hb:0≤m∧m≤18446744073709551615:=by simpa [Lit.wf,IntKind.min,IntKind.max,IntKind.signed,IntKind.bits]using h2
 refine⟨BitVec.ofInt 64 m,?_⟩
 unfold Ad
 congr 1
 rw[BitVec.toNat_ofInt]
 omega
theorem O_{t e:TypeId}{n:Nat}{cs:List Value}{y:DataW H×List MemPlace}(ht:P.underlying t=some (.array 4 e))(he:P.underlying e=some (.int .u64))(h1:P.cellsOf e=1)(h4:P.cellsOf t=4)(h:DataW.trod enc P w base spare held n t cs=some y):∃p:St,cs=IM p:=by
 obtain⟨xs,m,_,_,hlen,_,hx⟩:=DataW.trod_array ht h
 rw[h4]at hlen
 have hw:∀i,i<4→∃a:BitVec 64,cs[i]?=some (Ad a):=fun i hi=>by
  have:=hx i hi
  rw[h1,Nat.mul_one]at this
  have hc:(cs.drop i).take 1=[cs[i]]:=by
   rw[List.drop_eq_getElem_cons (show i<cs.length by omega)];rfl
  rw[hc]at this
  have hx':∃y,xs[i]?=some y:=⟨xs[i],by simp⟩
  obtain⟨y',hy'⟩:=hx'
  rw[hy']at this
  obtain⟨a,ha⟩:=M3 he this
  exact⟨a,by rw[←ha];simp⟩
 obtain⟨a,ha⟩:=hw 0 (by omega)
 obtain⟨b,hb⟩:=hw 1 (by omega)
 obtain⟨c,hc⟩:=hw 2 (by omega)
 obtain⟨d,hd⟩:=hw 3 (by omega)
 refine⟨bitsOf a b c d,?_⟩
 unfold IM
 rw[←PU]
 match cs,hlen with
 | [x0,x1,x2,x3],_=>simp at ha hb hc hd;simp[ha,hb,hc,hd]
end
end Go.GK
namespace Go.GK
def pr(l:List (Nat×Nat))(i:Nat):Nat×Nat:=l.getD i (0,0)
theorem Qi(l:List (Nat×Nat))(i:Nat)(h:i<l.length):l[i]?=some (pr l i):=by simp[pr,h]
theorem WM(l:List (Nat×Nat))(i:Nat)(h:i<l.length):pr l i∈l:=List.mem_of_getElem? (Qi l i h)
theorem WK(p:Nat→Bool):(Ch p 256).length≤256:=Lm p 256
theorem XS(p:Nat→Bool)(i:Nat)(h:i<(Ch p 256).length):(pr (Ch p 256) i).1≤(pr (Ch p 256) i).2∧(pr (Ch p 256) i).2<256:=by
 have:=(GA p 256).run _ (WM _ i h);exact⟨this.1,this.2.1⟩
def ZH(l:List (Nat×Nat))(i:Nat)(z:Nat):Bool:=(l.take i).any fun a=>Sc a.1 a.2 z
def ZI(l:List (Nat×Nat))(i:Nat):Nat:=ZG (l.take i)
def VS(l:List St)(x y i:Nat):Bool:=E_ (l.take i) x y
theorem J7(l:List St):(partsOf l).length≤65536:=by have:=J9 (AY l l.length) (Ol l l.length) 256;exact this
theorem J'(p:Nat→Bool):DO p<256:=by
 unfold DO
 cases h:(List.range 256).find? p with
 |none=>simp
 |some a=>have:=List.mem_of_find?_eq_some h;simp at this⊢;exact this
attribute [irreducible] pr ZH ZI VS
end Go.GK
namespace Go.GK
def NU(p:AD):List (Int×Int):=(Ch p 256).map fun a=>((a.1:Int),(a.2:Int))
def BD(l:List AD):List AD:=partsOf l
section
variable {P : Program} {H : Hp} {O : List A2}
theorem QL{H:Hp} :∀ {l:List AD} {xs:List Value},Ap KA H l xs↔xs=l.flatMap IM
 | [],xs=>Iff.rfl
 |p::l,xs=>by
  constructor
  ·rintro⟨cs,ys,rfl,h1,h2⟩
   rw[show cs=(BE p).toList from h1,QL.1 h2];rfl
  ·intro h;exact⟨IM p,l.flatMap IM,h,rfl,QL.2 rfl⟩
theorem V'{H:Hp} :∀ {l:List (Nat×Nat)},(∀a∈l,a.1<256∧a.2<256)→Ap (cP A0 A0) H (l.map fun a=>((a.1:Int),(a.2:Int))) (l.flatMap Hb)
 | [],_=>rfl
 |a::l,h=>⟨Hb a,l.flatMap Hb,rfl,⟨[.int .u8 (a.1:Int)],[.int .u8 (a.2:Int)],rfl,⟨rfl,by have:=h a (by simp);simp,by have:=h a (by simp);simp;omega⟩,⟨rfl,by simp,by have:=h a (by simp);simp;omega⟩⟩,V' fun b hb=>h b (by simp[hb])⟩
theorem XT(p:AD):∀a∈Ch p 256,a.1<256∧a.2<256:=fun a ha=>by
 obtain⟨i,hi,rfl⟩:=List.getElem_of_mem ha
 have:=XS p i hi
 have e:pr (Ch p 256) i=(Ch p 256)[i]:=by have:=Qi (Ch p 256) i hi;rw[List.getElem?_eq_getElem hi]at this;exact(Option.some.inj this).symm
 rw[e]at this;omega
theorem CB.OH{f:FuncId}{p:AD}{b:Int}(hw:∀b:Nat,b<256→CB P f [.agg (BE p), .int .u8 (b:Int)] H O (.bool (p b)))(h0:0≤b)(h1:b≤255):CB P f [.agg (BE p), .int .u8 b] H O (.bool (p b.toNat)):=by
 have:=hw b.toNat (by omega)
 rwa [Int.toNat_of_nonneg h0]at this
theorem Eg.Lo{f:FuncId}{p:AD}(hw:Eg P f [.agg (BE p)] H O (fun v H' O'=>O'=O∧Sl H' v 2 (Ch p 256).length ((Ch p 256).flatMap Hb))):Eg P f [.agg (BE p)] H O (fun v H' O'=>(∃v1,v1=v∧AL (cP A0 A0) H' (NU p) v1)∧O=O'):=
 hw.mono fun v H' O' _ ⟨h1,h2⟩=>⟨⟨v,rfl,AL.of h2 (by simp[NU]) (V' (XT p)) (by have:=WK p;simp only[NU,List.length_map];omega)⟩,h1.symm⟩
theorem Eg.Nd{f:FuncId}{l:List AD}{v:Value}(hw:∀(l:List St) (v:Value),Sl H v 4 l.length (l.flatMap IM)→l.length≤4294967296→Eg P f [v] H O (fun v H' O'=>O'=O∧Sl H' v 4 (partsOf l).length ((partsOf l).flatMap IM)))
  (hl:AL KA H l v) (hn:l.length≤4294967296):Eg P f [v] H O (fun v H' O'=>(∃v1,v1=v∧AL KA H' (BD l) v1)∧O=O'):=by
 obtain⟨⟨xs,h1,h2⟩,h3⟩:=hl
 have e:=QL.1 h2
 subst e
 exact(hw l v h1 hn).mono fun v H' O' _ ⟨h1,h2⟩=>⟨⟨v,rf,AL.of h2 rf (QL.2 rf) (by have:=J7 l;show(partsOf l).length≤_;omega)⟩,h1.symm⟩
end
end Go.GK
namespace Go.GK
theorem zw(i:Nat):Ad (word (fun _=>false) i)= .int .u64 0:=by
 have:word (fun _=>false) i=0#64:=by
  apply BitVec.eq_of_getLsbD_eq
  intro j hj;rw[A_];simp
 rw[this];rfl
theorem ZQ:Value.agg #[.int .u64 0, .int .u64 0, .int .u64 0, .int .u64 0]= .agg #[Ad (word (fun _=>false) 0),Ad (word (fun _=>false) 1),Ad (word (fun _=>false) 2),Ad (word (fun _=>false) 3)]:=by simp only[zw]
end Go.GK
namespace Go.GK
def WG(v:Value)(lo hi sz:Nat):Value:=match v with
 | .slice a _ cap=>sliced a lo hi cap sz
 |_=>undef
def WH{α:Type}(l:List α)(lo hi:Int):List α:=(l.take hi.toNat).drop lo.toNat
def Xr(E:Operand→Option Value)(lo hi:Option Operand)(l h:Int)(n:Nat):Prop:=
 (lo=none∧l=0∨∃p k,lo=some p∧E p=some (.int k l))∧(hi=none∧h=(n:Int)∨∃p k,hi=some p∧E p=some (.int k h))
section
variable {P : Program} {T : TypeId} {E : Operand → Option Value} {H : Hp} {O : List A2} {α : Type} {c : Cd α}
theorem Ms(a:Addr):a.add 0=a:=by cases a;simp[Addr.add]
theorem Vz{t e:TypeId}(ht:P.underlying t=some (.slice e)):P.underlying t=some (.slice (P.elem t)):=by simp[Program.elem,ht]
theorem VA{t e:TypeId}(ht:P.underlying t=some (.slice e)):P.elem t=e:=by simp[Program.elem,ht]
theorem M'{t e:TypeId}{size bytes:Nat}{z:Value}{a:Option Addr}{n cap:Nat}{lo hi:Option Operand}{l h:Int}{ac:Act}(ht:P.underlying t=some (.slice e))(hz:TI P e size bytes z)(hB:Xr E lo hi l h n)(he:∀x v,E x=some v→ac.eval x=v)
  (h0:0≤l) (h1:l≤h) (h2:h≤(n:Nat)) (h3:n≤cap) (w:World):(Instr.sliceAt t (.slice a n cap) (lo.map ac.eval) (hi.map ac.eval) none).run P w= .ok (sliced a l.toNat h.toNat cap size) w:=by
 have ht':=Vz ht
 have hs:(Go.sizeOf (P.elem t)).run P w= .ok size w:=by rw[VA ht];exact hz.sizeOf
 rw[run_sliceAt_slice (h:=ht')]
 obtain⟨hl,hh⟩:=hB
 rcases hl with⟨rfl,rfl⟩|⟨p,k,rfl,hp⟩<;>rcases hh with⟨rfl,rfl⟩|⟨q,k',rfl,hq⟩
 ·simp only[Option.map_none];rw[run_slice_all (t:=t) (a:=a) (len:=n) (cap:=cap) (ht:=ht'),hs];simp[Result.andThen]
 ·simp only[Option.map_none,Option.map_some,he q _ hq];rw[run_slice_h (t:=t) (a:=a) (len:=n) (cap:=cap) (ht:=ht') (h0:=h1) (h2:=by omega),hs];simp[Result.andThen]
 ·simp only[Option.map_none,Option.map_some,he p _ hp];rw[run_slice_l (t:=t) (a:=a) (len:=n) (cap:=cap) (ht:=ht') (h0:=h0) (h1:=h1),hs];simp[Result.andThen]
 ·simp only[Option.map_some,he p _ hp,he q _ hq];rw[run_slice_lh (t:=t) (a:=a) (len:=n) (cap:=cap) (ht:=ht') (h0:=h0) (h1:=h1) (h2:=by omega),hs];simp[Result.andThen]
theorem Nf{w:World}{base:Nat}{e:TypeId}{size g cap n h:Nat}{xs:List Value}(hh:h≤n)
  (ho:w.ownsRow base e size (.slice (some ⟨g,0,none⟩) n cap) n xs):w.ownsRow base e size (.slice (some ⟨g,0,none⟩) h cap) h (xs.take (h*size)):=by
 obtain⟨h1,h2⟩:=ho
 rcases h2 with⟨h0,_⟩|⟨g',cap',cur,hv,hg,hh',hn,hcap,hsz,htake⟩
 ·cases h0
 ·cases hv
  refine⟨by rw[List.length_take,h1];exact Nat.min_eq_left (Nat.mul_le_mul_right _ hh), .inr ⟨g,cap,cur,rf,hg,hh',by omega,hcap,hsz,?_⟩⟩
  rw[←htake,List.take_take,Nat.min_eq_left (Nat.mul_le_mul_right _ hh)]
theorem Bc.PA{x y:Operand}{t e:TypeId}{bytes:Nat}{z v:Value}{l:List α}{xs:List Value}{k:IntKind}{h:Int}{i:Nat}(ht:P.underlying t=some (.slice e))(hz:TI P e c.sz bytes z)(hx:E x=some v)(hy:E y=some (.int k h))
  (hi:O[i]?=some (.row v e c.sz l.length xs)) (hb:0≤h∧h≤(l.length:Nat)):
  Bc P (.slice t x none (some y) none) T E H O (fun v' H' O'=>H'=H∧O'=O.set i (.row v' e c.sz h.toNat (xs.take (h.toNat*c.sz)))):= .AR fun ac w o ho _ he hw=>by
 have hown:=hw.ok i _ hi
 simp only[A2.ok]at hown
 have hB:Xr E none (some y) 0 h l.length:=⟨.inl ⟨rfl,rfl⟩, .inr ⟨y,k,rfl,hy⟩⟩
 rcases hown.2 with⟨rfl,h0⟩|⟨g,cap,cur,rfl,_,hg,hnc,hcm,hcs,htake⟩
 ·have hz0:h=0:=by omega
  subst hz0
  have hr:=M' (ac:=ac) (a:=none) (cap:=0) ht hz hB he (Int.le_refl 0) hb.1 hb.2 (by omega) w
  rw[h0]at hr
  refine⟨.slice none 0 0,w,H,_,?_,Hp.le.refl H,⟨rf,rf⟩,hw.set hi (w':=w) (r':= .row (.slice none 0 0) e c.sz 0 (xs.take (0*c.sz))) ⟨rf,rf,rf,Nat.le_refl _,fun _ _ _=>rfl⟩ ?_ ?_⟩
  ·have hr':Sem.run P (Instr.sliceAt t (.slice none 0 0) none (some (ac.eval y)) none) w= .ok (.slice none 0 0) w:=by simpa [sliced]using hr
   simp[execOp,ho,he x _ hx,hr',Result.andThen]
  ·simpa [A2.ok]using World.ownsRow_nil w _ e c.sz
  ·intro b hb;cases hb
 ·have hr:=M' (ac:=ac) (a:=some ⟨g,0,none⟩) (cap:=cap) ht hz hB he (Int.le_refl 0) hb.1 hb.2 hnc w
  have hv:sliced (some ⟨g,0,none⟩) (0:Int).toNat h.toNat cap c.sz= .slice (some ⟨g,0,none⟩) h.toNat cap:=by
   simp[sliced,Ms]
  rw[hv]at hr
  refine⟨_,w,H,_,?_,Hp.le.refl H,⟨rf,rf⟩,hw.set hi (w':=w) (r':= .row (.slice (some ⟨g,0,none⟩) h.toNat cap) e c.sz h.toNat (xs.take (h.toNat*c.sz))) ⟨rf,rf,rf,Nat.le_refl _,fun _ _ _=>rfl⟩ (Nf (by omega) hown) ?_⟩
  ·have hr':Sem.run P (Instr.sliceAt t (.slice (some ⟨g,0,none⟩) l.length cap) none (some (ac.eval y)) none) w= .ok (.slice (some ⟨g,0,none⟩) h.toNat cap) w:=by simpa using hr
   simp[execOp,ho,he x _ hx,hr',Result.andThen]
  ·intro b hb;exact .inl hb
end
section
variable {P : Program} {Q : Exit → Act → World → Prop} {n : Nat} {L : List (Nat × Value)} {H : Hp} {O : List A2} {ops : Array Oper} {rest : List Oper} {T : TypeId} {α : Type} {c : Cd α}
theorem Aa.PA{d:Tmp}{pos:String}{af:Array Edge}{x y:Operand}{t e:TypeId}{bytes:Nat}{z v:Value}{l:List α}{xs:List Value}{kk:IntKind}{h:Int}(i:Nat)(hL:Ap c H l xs)(ht:P.underlying t=some (.slice e))(hz:TI P e c.sz bytes z)(hx:ev L x=some v)(hy:ev L y=some (.int kk h))
  (hi:O[i]?=some (.row v e c.sz l.length xs)) (hb:0≤h∧h≤(l.length:Nat)) (hd:Nat.blt d n=true)
  (k:∀v' xs',Ap c H (l.take h.toNat) xs'→Aa P ops Q rest n ((d,v')::L) H (O.set i (.row v' e c.sz (l.take h.toNat).length xs'))):
  Aa P ops Q ({dst:=some d,op:= .slice t x none (some y) none,type:=T,pos,after:=af,guard:=none} ::rest) n L H O:=by
 refine Aa.Fi (Bc.PA (c:=c) (l:=l) ht hz hx hy hi hb) hd ?_
 rintro v' H' O' hl ⟨rfl,rfl⟩
 have:=k v' _ (hL.take h.toNat)
 rwa [List.length_take,Nat.min_eq_left (by omega)]at this
end
section
variable {P : Program} {T : TypeId} {E : Operand → Option Value} {H : Hp} {O : List A2} {α : Type} {c : Cd α}
theorem Ap.drop:∀ {l:List α} {xs:List Value} (m:Nat),Ap c H l xs→Ap c H (l.drop m) (xs.drop (m*c.sz))
 | [],xs,m,h=>by simp only[Ap]at h;subst h;simp[Ap]
 |a::l,xs,0,h=>by simpa using h
 |a::l,_,m+1,⟨cs,ys,e,h1,h2⟩=>by
  subst e
  rw[List.drop_succ_cons,show(m+1)*c.sz=cs.length+m*c.sz by rw[c.len h1,Nat.add_mul];omega,←List.drop_drop,List.drop_left]
  exact Ap.drop m h2
theorem AL.cut{l:List α}{v:Value}{a b:Int}(h:AL c H l v)(h0:0≤a)(h1:a≤b)(h2:b≤(l.length:Nat)):AL c H (WH l a b) (WG v a.toNat b.toNat c.sz):=by
 obtain⟨⟨xs,hs,hL⟩,hle⟩:=h
 have hn:(WH l a b).length=b.toNat-a.toNat:=by unfold WH;rw[List.length_drop,List.length_take];omega
 have hL':Ap c H (WH l a b) ((xs.take (b.toNat*c.sz)).drop (a.toNat*c.sz)):=(hL.take _).drop _
 rcases hs.sl with⟨rfl,h3⟩|⟨ad,cap,rfl,hc⟩
 ·have e1:a=0:=by omega
  have e2:b=0:=by omega
  subst e1;subst e2
  have:l=[]:=List.eq_nil_of_length_eq_zero h3
  subst this
  exact AL.nil
 ·refine⟨⟨_,⟨hL'.len, .inr ?_,fun j u hj=>?_⟩,hL'⟩,by omega⟩
  ·by_cases hm:cap=a.toNat
   ·exact⟨ad,cap-a.toNat,by simp[WG,sliced,hm,hn],by omega⟩
   ·exact⟨ad.add (a.toNat*c.sz),cap-a.toNat,by simp[WG,sliced,hm,hn],by omega⟩
  ·rw[List.getElem?_drop,List.getElem?_take]at hj
   split at hj
   ·rename_i hlt
    have:=hs.cells _ u hj
    simp only[AG]at this
    by_cases hm:cap=a.toNat
    ·have:b.toNat=a.toNat:=by omega
     rw[this]at hlt;omega
    ·simp only[WG,sliced,hm,if_false,Option.map_some,AG]
     rw[D_];exact this
   ·cases hj
theorem Ab.Zr{x:Operand}{lo hi:Option Operand}{t e:TypeId}{bytes:Nat}{z v:Value}{l:List α}{a b:Int}(ht:P.underlying t=some (.slice e))(hz:TI P e c.sz bytes z)(hx:E x=some v)(hD:AL c H l v)(hB:Xr E lo hi a b l.length)(h0:0≤a)(h1:a≤b)(h2:b≤(l.length:Nat)):
  Ab P (.slice t x lo hi none) T E H O (WG v a.toNat b.toNat c.sz):= .AR fun ac w o ho _ he _=>by
 rcases hD.sl with⟨rfl,h3⟩|⟨ad,cap,rfl,hc⟩
 ·have hr:=M' (ac:=ac) (a:=none) (cap:=0) ht hz hB he h0 h1 h2 (by omega) w
  rw[h3]at hr
  simp only[execOp,ho,he x _ hx]
  cases lo<;>cases hi<;>(simp only[Option.map_none,Option.map_some]at hr;simp[hr,WG,Result.andThen])
 ·have hr:=M' (ac:=ac) (a:=some ad) (cap:=cap) ht hz hB he h0 h1 h2 hc w
  simp only[execOp,ho,he x _ hx]
  cases lo<;>cases hi<;>(simp only[Option.map_none,Option.map_some]at hr;simp[hr,WG,Result.andThen])
end
end Go.GK
namespace Go.GK
open Go.Proofs Go.Shelf Go.Sort
def ES(x y:Int×Int×Int):Option Int:=some (x.1-y.1)
section
variable {α : Type} (cmp : α → α → Option Int)
def QB(x y:α):Bool:=decide ((cmp x y).getD 0<0)
def M0(l:List α):Prop:=
 (∀i j:Fin l.length,(cmp l[i] l[j]).isSome=true)∧(∀i:Fin l.length,QB cmp l[i] l[i]=false)∧(∀i j k:Fin l.length,QB cmp l[i] l[j]=true→QB cmp l[j] l[k]=true→QB cmp l[i] l[k]=true)∧
 (∀i j k:Fin l.length,QB cmp l[i] l[j]=false→QB cmp l[j] l[k]=false→QB cmp l[i] l[k]=false)∧(∀i j:Fin l.length,QB cmp l[i] l[j]=false→QB cmp l[j] l[i]=false→i=j)
instance(l:List α):Decidable (M0 cmp l):=by unfold M0;infer_instance
def Ei(l:List α):List α:=E5 (fun x y=> !QB cmp y x) l
theorem M8(l:List α):(Ei cmp l).length=l.length:=(Dv _ l).length_eq
end
theorem Ap.chunk{α:Type}{c:Cd α}{H:Hp}{l:List α}{xs:List Value}(h:Ap c H l xs)(i:Fin l.length):c.Lay H l[i] ((xs.drop (i*c.sz)).take c.sz):=by
 obtain⟨cs,h1,_,h3⟩:=h.get (i:=i) (x:=l[i]) (by simp)
 rw[←h3];exact h1
theorem Ap.ME{α:Type}{c:Cd α}{H:Hp}{ι:Type}(f:ι→α)(g:ι→List Value)(h:∀i,c.Lay H (f i) (g i)):∀is:List ι,Ap c H (is.map f) (is.map g).flatten
 | []=>rfl
 |i::is=>⟨g i,(is.map g).flatten,rfl,h i,Ap.ME f g h is⟩
theorem LQ {β : Type} [Inhabited β] (enc : β → List Value) (k : Nat) (hk : ∀ x, (enc x).length = k) (d : Array β) : (flatK enc k d).toList = (d.toList.map enc).flatten := by
  have key : ∀ (l : List β) (t : Nat) (ht : t < l.length * k) (h2 : t < (l.map enc).flatten.length), (l.map enc).flatten[t] = (enc (l.toArray[t / k]!))[t % k]! := by
    intro l
    induction l with
    | nil => intro t ht; simp at ht
    | cons a l ih =>
      intro t ht h2
      simp only [List.map_cons, List.flatten_cons]
      have k0 : 0 < k := by rcases Nat.eq_zero_or_pos k with h | h
                            · subst h; simp at ht
                            · exact h
      by_cases hlt : t < k
      · rw [List.getElem_append_left (by rw [hk]; exact hlt), Nat.div_eq_of_lt hlt, Nat.mod_eq_of_lt hlt]
        have : t < (enc a).length := by rw [hk]; exact hlt
        simp [this]
      · have hl := hk a
        rw [List.getElem_append_right (by rw [hk]; omega)]
        have e : t - (enc a).length = t - k := by rw [hk]
        have hd : t / k = (t - k) / k + 1 := by rw [← Nat.sub_add_cancel (show k ≤ t by omega), Nat.add_sub_cancel, Nat.add_div_right _ k0]
        have hm : t % k = (t - k) % k := by rw [← Nat.sub_add_cancel (show k ≤ t by omega), Nat.add_sub_cancel, Nat.add_mod_right]
        have ih' := ih (t - k) (by simp only [List.length_cons, Nat.add_mul, Nat.one_mul] at ht; omega) (by simp only [List.map_cons, List.flatten_cons, List.length_append, hk] at h2; omega)
        rw [hd, hm]
        simp only [e]
        rw [ih']
        congr 2
        simp
  have hlen : ∀ l : List β, (l.map enc).flatten.length = l.length * k := by
    intro l; induction l with
    | nil => simp
    | cons a l ih => simp only [List.map_cons, List.flatten_cons, List.length_append, hk, List.length_cons, Nat.add_mul, Nat.one_mul, ih]; omega
  apply List.ext_getElem
  · simp [hlen]
  · intro t h1 h2
    have ht : t < d.size * k := by simpa using h1
    rw [key d.toList t (by simpa using ht) h2]
    simp [flatK]
theorem Mm{β:Type} [Inhabited β](enc:β→List Value)(k:Nat)(w:World)(g m:Nat)(d:Array β)(os:Array Obj):w.grownBy (sortWorldK enc k w g 0 m d os) (some g):=by
 refine⟨rf,rf,rf,by simp[sortWorldK,putRowK],fun b hb hne=>?_⟩
 have:g≠b:=fun e=>hne (by rw[e])
 unfold sortWorldK
 rw[heap_grow_old _ _ (by simpa [putRowK]using hb)]
 simp[putRowK,putRow,mapBlock,Sort.ahead,Array.getElem?_modify,this]
theorem PN{β:Type} [Inhabited β](enc:β→List Value)(k:Nat){w:World}{g:Nat}(m:Nat)(d:Array β)(os:Array Obj){cur:Array Value}{e:TypeId}{fr:Nat×Nat}(hb:w.heap[g]?=some (.cells cur e fr)):
  (sortWorldK enc k w g 0 m d os).heap[g]?=some (.cells (putCells id 0 (flatK enc k d) cur) e fr):=by
 have hg:g<w.heap.size:=(Array.getElem?_eq_some_iff.1 hb).1
 unfold sortWorldK
 rw[heap_grow_old _ _ (by simpa [putRowK]using hg)]
 simp[putRowK,putRow,mapBlock,Sort.ahead,Array.getElem?_modify,hb,onCells]
theorem Pw(cur F:Array Value)(h:F.size≤cur.size):(putCells id 0 F cur).toList.take F.size=F.toList:=by
 apply List.ext_getElem?
 intro j
 by_cases hj:j<F.size
 ·rw[List.getElem?_take_of_lt hj,Array.getElem?_toList]
  simp[putCells,hj,show j<cur.size by omega]
 ·rw[List.getElem?_take_eq_none (by omega),List.getElem?_eq_none (by simp;omega)]
theorem Nu{α:Type}(l:List α):(List.finRange l.length).map (fun i=>l[i])=l:=by
 apply List.ext_getElem (by simp)
 intro i h1 h2;simp
section
variable {P : Program} {ρ : Ren} {H : Hp} {O : List A2} {α : Type} {c : Cd α}
theorem Eg.WD(Ly:SlLaysF0.n6 P ρ)(aE:∀w,(isAgg (ρ.t 24)).run P w= .ok true w)(zE:∀w,(Go.sizeOf (ρ.t 24)).run P w= .ok c.sz w){g:Nat}(eg:∀args w,(callFunc g args).run P w= .ok (.enter g args) w){cmp:α→α→Option Int}
  (hcmp:∀(H:Hp) (x y:α) (r:Int) (cs1 cs2:List Value),c.Lay H x cs1→c.Lay H y cs2→cmp x y=some r→∀W,Calls P g #[.agg cs1.toArray, .agg cs2.toArray] W fun e w'=>e= .returned (.int .i64 r)∧∃q os',w'=grow (W.drewN q) os')
  {l:List α} {v:Value} {e:TypeId} {xs:List Value} (hL:Ap c H l xs) (hok:M0 cmp l) (hn:l.length≤AJ):
  Eg P (ρ.f 6) [v, .func (.func g) #[] #[]] H (.row v e c.sz l.length xs::O) (fun r H' O'=> ∃xs', .tuple #[]=r∧Ap c H' (Ei cmp l) xs'∧ .row v e c.sz (Ei cmp l).length xs'::O=O'):=fun w hs=>by
 have hlen:=M8 cmp l
 have hown:=hs.ok 0 _ rfl
 simp only[A2.ok]at hown
 by_cases hnil:l=[]
 ·subst hnil
  have hv:∃p cap,v= .slice p 0 cap:=by
   rcases hown.2 with⟨rfl,_⟩|⟨g,cap,cur,rfl,_⟩<;>exact⟨_,_,rfl⟩
  obtain⟨p,cap,rfl⟩:=hv
  refine(AnyF.slices_SortFunc_none Ly p cap _ w).mono fun e' w' ⟨g1,g2⟩=>?_
  subst g2
  exact⟨_,H,_,g1,Hp.le.refl H,hs,xs,rf,by simpa [Ei,E5]using hL,by simp[Ei,E5]⟩
 ·have hpos:0<l.length:=List.length_pos_iff.2 hnil
  rcases hown.2 with⟨rfl,hz⟩|⟨b,cap,cur,rfl,_,hg,hnc,hcm,hcs,htake⟩
  ·omega
  letI:Inhabited (Fin l.length):=⟨⟨0,hpos⟩⟩
  let enc:Fin l.length→List Value:=fun i=>(xs.drop (i*c.sz)).take c.sz
  let cf:Fin l.length→Fin l.length→Int:=fun i j=>(cmp l[i] l[j]).getD 0
  have hk:∀i,(enc i).length=c.sz:=fun i=>c.len (hL.chunk i)
  have h1c:∀i,∀u∈enc i,u.oneCell'=true:=fun i=>c.one (hL.chunk i)
  obtain⟨k1,k2,k3,k4,k5⟩:=hok
  have hO:SWO (ltOf cf):=⟨k2,k3,k4⟩
  have hflat:(flatK enc c.sz (List.finRange l.length).toArray).toList=xs:=by
   rw[LQ enc c.sz hk]
   have hx:=hL.len
   apply List.ext_getElem?
   intro t
   have key:∀(n:Nat) (xs:List Value),xs.length=n*c.sz→((List.finRange n).map fun i:Fin n=>(xs.drop (i*c.sz)).take c.sz).flatten=xs:=by
    intro n
    induction n with
    |zero=>intro xs hx;simp at hx;subst hx;rfl
    |succ n ih=>
     intro xs hx
     rw[List.finRange_succ,List.map_cons,List.flatten_cons,List.map_map]
     have:=ih (xs.drop c.sz) (by rw[List.length_drop,hx,Nat.add_mul];omega)
     have e:(List.map ((fun i:Fin (n+1)=>(xs.drop (i*c.sz)).take c.sz)∘Fin.succ) (List.finRange n))=(List.finRange n).map fun i:Fin n=>((xs.drop c.sz).drop (i*c.sz)).take c.sz:=by
      apply List.map_congr_left
      intro i _
      simp only[Function.comp,Fin.val_succ,List.drop_drop]
      congr 2
      rw[Nat.add_mul];omega
     rw[e,this]
     simp
   rw[show(List.finRange l.length).toArray.toList=List.finRange l.length from rfl,key l.length xs hx]
  have hsz:(List.finRange l.length).toArray.size=l.length:=by simp
  have hbs:b<w.heap.size:=(Array.getElem?_eq_some_iff.1 hg).1
  have hxl:xs.length=l.length*c.sz:=hL.len
  have hH:HoldsK enc c.sz w b 0 (List.finRange l.length).toArray:=by
   intro j hj
   have hF:flatK enc c.sz (List.finRange l.length).toArray=xs.toArray:=by rw[←hflat]
   rw[hF]at hj⊢
   have hj':j<xs.length:=by simpa using hj
   refine⟨?_,by simp[World.frozen?,hg]⟩
   have:=hown.cells (g:=b) rfl j xs[j] (by simp[hj'])
   by_cases hj0:j=0
   ·subst hj0;simpa [Addr.add,hj']using this
   ·simpa [Addr.add,hj',hj0]using this
  have main:=AnyQ.slices_SortFunc_total Ly c.sz aE zE enc hk h1c cf hO g #[] b 0 cap (List.finRange l.length).toArray w eg
   (fun m os dk _ x y=>by
    have hx:=k1 x y
    obtain⟨r,hr⟩:=Option.isSome_iff_exists.1 hx
    have hcf:cf x y=r:=by show(cmp l[x] l[y]).getD 0=r;rw[hr];rfl
    rw[hcf]
    exact hcmp H l[x] l[y] r (enc x) (enc y) (hL.chunk x) (hL.chunk y) hr _)
   hH hbs (by simp only[AJ]at hn;simp;omega) k5
  rw[hsz]at main
  refine main.mono fun e' w' ⟨g1,m,os,g2⟩=>?_
  subst g2
  let d':List (Fin l.length):=(List.finRange l.length).mergeSort fun x y=> !(ltOf cf) y x
  have hd':d'.map (fun i=>l[i])=Ei cmp l:=by
   show((List.finRange l.length).mergeSort _).map _=_
   have e:=MK (le:=fun x y=> !(ltOf cf) y x) (fun a b c h k=>by
     have h':ltOf cf b a=false:=by simpa using h
     have k':ltOf cf c b=false:=by simpa using k
     have h4:ltOf cf c a=false:=k4 c b a k' h'
     simp[h4])
    (fun a b=>by
     by_cases h:ltOf cf b a=true
     ·right
      have:ltOf cf a b=false:=by
       cases h2:ltOf cf a b with
       |false=>rfl
       |true=>exact absurd (k3 b a b h h2) (by rw[k2 b];simp)
      simp[this]
     ·left;simp[Bool.eq_false_iff.2 h])
    (fun a b h k=>by
     have h':ltOf cf b a=false:=by simpa using h
     have k':ltOf cf a b=false:=by simpa using k
     exact k5 a b k' h') (List.finRange l.length)
   have e2:=LM (fun i:Fin l.length=>l[i]) (fun x y=> !QB cmp y x) (List.finRange l.length)
   rw[Nu]at e2
   rw[←e]
   exact e2.symm
  have hd'l:d'.length=l.length:=by simp[d']
  have hlay:Ap c H (Ei cmp l) (flatK enc c.sz d'.toArray).toList:=by
   rw[LQ enc c.sz hk,←hd']
   exact Ap.ME (fun i=>l[i]) enc (fun i=>hL.chunk i) d'
  have hFs:(flatK enc c.sz d'.toArray).size=l.length*c.sz:=by simp[hd'l]
  refine⟨_,H,_,g1,Hp.le.refl H,hs.set (i:=0) (r':= .row (.slice (some ⟨b,0,none⟩) l.length cap) e c.sz (Ei cmp l).length (flatK enc c.sz d'.toArray).toList) rf (Mm enc c.sz w b m d'.toArray os) ?_ ?_,_,rf,hlay,rf⟩
  ·show World.ownsRow _ 0 e c.sz _ _ _
   rw[hlen]
   refine⟨by simp[hFs], .inr ⟨b,cap,_,rf,Nat.zero_le _,PN enc c.sz m d'.toArray os hg,hnc,hcm,by simp[putCells,hcs],?_⟩⟩
   have hle:(flatK enc c.sz d'.toArray).size≤cur.size:=by rw[hFs,hcs];exact Nat.mul_le_mul_right _ hnc
   rw[←hFs];exact Pw cur _ hle
  ·intro q hq;exact .inl hq
end
end Go.GK
namespace Go.GK
inductive Rx where
 |mk (kind:Int) (set:AD) (Aq:List Rx)
def Rx.kind:Rx→Int| .mk k _ _=>k
def Rx.set:Rx→AD| .mk _ p _=>p
def Rx.Aq:Rx→List Rx| .mk _ _ l=>l
mutual
def EZ(H:Hp):Rx→List Value→Prop
 | .mk k p Aq,cs=> ∃v xs,cs= .int .i64 k::((BE p).toList++[v])∧Sl H v 6 Aq.length xs∧Aq.length≤9223372036854775807∧FD H Aq xs
def FD(H:Hp):List Rx→List Value→Prop
 | [],xs=>xs=[]
 |a::l,xs=> ∃cs ys,xs=cs++ys∧EZ H a cs∧FD H l ys
end
theorem EZ.len{H:Hp}{a:Rx}{cs:List Value}(h:EZ H a cs):cs.length=6:=by
 cases a with
 |mk k p Aq=>simp only[EZ]at h;obtain⟨v,xs,rfl,_⟩:=h;rfl
theorem EZ.one{H:Hp}{a:Rx}{cs:List Value}(h:EZ H a cs):∀u∈cs,u.oneCell'=true:=by
 cases a with
 |mk k p Aq=>
  simp only[EZ]at h;obtain⟨v,xs,rfl,hs,_⟩:=h
  intro u hu
  simp only[List.mem_cons,List.mem_append,List.not_mem_nil,or_false]at hu
  rcases hu with rfl|hu|rfl
  ·rfl
  ·exact DN _ u (by simpa using hu)
  ·rcases hs.sl with⟨rfl,_⟩|⟨a,cap,rfl,_⟩<;>rfl
mutual
theorem EZ.mono{H H':Hp}(hl:H.le H'):∀(a:Rx) (cs:List Value),EZ H a cs→EZ H' a cs
 | .mk k p Aq,cs,h=>by
  simp only[EZ]at h⊢
  obtain⟨v,xs,e,h1,h2,h3⟩:=h
  exact⟨v,xs,e,h1.mono hl,h2,FD.mono hl Aq xs h3⟩
theorem FD.mono{H H':Hp}(hl:H.le H'):∀(l:List Rx) (xs:List Value),FD H l xs→FD H' l xs
 | [],_,h=>by simp only[FD]at h⊢;exact h
 |a::l,_,h=>by
  simp only[FD]at h⊢
  obtain⟨cs,ys,e,h1,h2⟩:=h
  exact⟨cs,ys,e,EZ.mono hl a cs h1,FD.mono hl l ys h2⟩
end
def C':Cd Rx where
 sz:=6
 Lay:=EZ
 len h:=EZ.len h
 mono hl h:=EZ.mono hl _ _ h
 one h:=EZ.one h
theorem Nz{H:Hp} :∀ {l:List Rx} {xs:List Value},FD H l xs↔Ap C' H l xs
 | [],xs=>by simp only[FD,Ap]
 |a::l,xs=>by
  simp only[FD,Ap]
  constructor
  ·rintro⟨cs,ys,e,h1,h2⟩;exact⟨cs,ys,e,h1,Nz.1 h2⟩
  ·rintro⟨cs,ys,e,h1,h2⟩;exact⟨cs,ys,e,h1,Nz.2 h2⟩
theorem CC{H:Hp}{a:Rx}{cs:List Value} :C'.Lay H a cs↔∃v,cs=[.int .i64 a.kind,Ad (word a.set 0),Ad (word a.set 1),Ad (word a.set 2),Ad (word a.set 3),v]∧AL C' H a.Aq v:=by
 cases a with
 |mk k p Aq=>
  show EZ H (.mk k p Aq) cs↔_
  simp only[EZ]
  constructor
  ·rintro⟨v,xs,e,h1,h2,h3⟩;exact⟨v,e,⟨xs,h1,Nz.1 h3⟩,h2⟩
  ·rintro⟨v,e,⟨xs,h1,h3⟩,h2⟩;exact⟨v,xs,e,h1,h2,Nz.2 h3⟩
theorem Tz{H:Hp}{k:Int}{p:AD}{l:List Rx}{v:Value}(h:AL C' H l v):C'.Lay H (.mk k p l) [.int .i64 k,Ad (word p 0),Ad (word p 1),Ad (word p 2),Ad (word p 3),v]:=CC.2 ⟨v,rfl,h⟩
end Go.GK
namespace Go.GK
def cV:Cd Value where
 sz:=1
 Lay _ v cs:=cs=[v]∧v.oneCell'=true
 len h:=by rw[h.1];rfl
 mono _ h:=h
 one h:=by rw[h.1];intro u hu;simp at hu;subst hu;exact h.2
theorem W0{H:Hp} :∀ {l xs:List Value},Ap cV H l xs→xs=l
 | [],xs,h=>h
 |a::l,_,⟨cs,ys,e,h1,h2⟩=>by subst e;rw[h1.1,W0 h2];rfl
theorem QJ{H:Hp} :∀ {l:List Value},(∀v∈l,v.oneCell'=true)→Ap cV H l l
 | [],_=>rfl
 |a::l,h=>⟨[a],l,rfl,⟨rfl,h a (by simp)⟩,QJ fun v hv=>h v (by simp[hv])⟩
section
variable {α : Type}
abbrev JW(α:Type):=List (Value×List α×List Value)
def Bi(e:TypeId)(sz:Nat)(F:JW α):List A2:=F.map fun f=> .row f.1 e sz f.2.1.length f.2.2
def AO(F:JW α):List Value:=F.map (·.1)
structure A3(c:Cd α)(H:Hp)(D:List (List α))(F:JW α):Prop where
 QX:F.map (·.2.1)=D
 lay:∀f∈F,Ap c H f.2.1 f.2.2
 one:∀f∈F,f.1.oneCell'=true
variable {c : Cd α} {H H' : Hp} {D : List (List α)} {F : JW α}
theorem A3.mono(h:A3 c H D F)(hl:H.le H'):A3 c H' D F:=⟨h.QX,fun f hf=>(h.lay f hf).mono hl,h.one⟩
theorem A3.nil:A3 c H [] []:=⟨rfl,nofun,nofun⟩
theorem A3.len(h:A3 c H D F):F.length=D.length:=by rw[←h.QX];simp
theorem A3.get{i:Int}{x:List α}(h:A3 c H D F)(hx:idx D i=some x):∃v xs,F[i.toNat]?=some (v,x,xs)∧Ap c H x xs∧idx (AO F) i=some v:=by
 obtain⟨⟨h0,h1⟩,h2⟩:=AX hx
 rw[←h.QX,List.getElem?_map]at h2
 cases hf:F[i.toNat]? with
 |none=>rw[hf]at h2;cases h2
 |some f=>
  obtain⟨v,y,xs⟩:=f
  rw[hf]at h2
  have e:y=x:=by simpa using h2
  subst e
  refine⟨v,xs,rf,h.lay _ (List.mem_of_getElem? hf),?_⟩
  unfold idx AO;rw[if_pos h0,List.getElem?_map,hf];rfl
theorem A3.set{i:Nat}{v:Value}{y:List α}{xs:List Value}(h:A3 c H D F)(hy:Ap c H y xs)(hv:v.oneCell'=true):A3 c H (D.set i y) (F.set i (v,y,xs)):=by
 refine⟨by rw[List.map_set,h.QX],fun f hf=>?_,fun f hf=>?_⟩
 ·rcases List.mem_or_eq_of_mem_set hf with hf|rfl
  ·exact h.lay f hf
  ·exact hy
 ·rcases List.mem_or_eq_of_mem_set hf with hf|rfl
  ·exact h.one f hf
  ·exact hv
theorem A3.add(h:A3 c H D F):A3 c H (D++[[]]) (F++[(.slice none 0 0,[],[])]):=by
 refine⟨by simp[h.QX],fun f hf=>?_,fun f hf=>?_⟩
 ·rcases List.mem_append.1 hf with hf|hf
  ·exact h.lay f hf
  ·simp at hf;subst hf;exact rfl
 ·rcases List.mem_append.1 hf with hf|hf
  ·exact h.one f hf
  ·simp at hf;subst hf;rfl
theorem A3.row(h:A3 c H D F):Ap cV H (AO F) (AO F):=QJ fun v hv=>by
 simp only[AO,List.mem_map]at hv
 obtain⟨f,hf,rfl⟩:=hv
 exact h.one f hf
theorem TR{i:Nat}{f:Value×List α×List Value} :AO (F.set i f)=(AO F).set i f.1:=by simp[AO,List.map_set]
theorem UT{xs:List Value}{i:Nat}{v:Value}(h:i<xs.length):E' xs i [v]=xs.set i v:=by
 unfold E'
 simp only[List.length_cons,List.length_nil]
 exact(List.set_eq_take_append_cons_drop (l:=xs) (i:=i) (a:=v)).symm▸(by rw[if_pos h];simp)
theorem Mn(e:TypeId)(sz:Nat)(i:Nat):Bi e sz (F.eraseIdx i)=(Bi e sz F).eraseIdx i:=by
 unfold Bi
 induction F generalizing i with
 |nil=>rfl
 |cons f F ih=>cases i with
  |zero=>rfl
  |succ i=>simp[ih]
theorem TS(e:TypeId)(sz:Nat)(i:Nat)(f:Value×List α×List Value):Bi e sz (F.set i f)=(Bi e sz F).set i (.row f.1 e sz f.2.1.length f.2.2):=by simp[Bi,List.map_set]
theorem TT{e:TypeId}{sz i:Nat}{f:Value×List α×List Value}(h:F[i]?=some f):(Bi e sz F)[i]?=some (.row f.1 e sz f.2.1.length f.2.2):=by simp[Bi,h]
variable {w : World} {A B R : List A2} {e : TypeId} {sz i : Nat} {f f' : Value × List α × List Value}
theorem Vn(hi:F[i]?=some f):(A++(Bi e sz F++R))[A.length+i]?=some (.row f.1 e sz f.2.1.length f.2.2):=by
 have hlt:i<(Bi e sz F).length:=by have:=(List.getElem?_eq_some_iff.1 hi).1;simpa [Bi]using this
 rw[List.getElem?_append_right (by omega),Nat.add_sub_cancel_left,List.getElem?_append_left hlt]
 exact TT hi
theorem LG(hi:F[i]?=some f):(A++(Bi e sz F++R)).eraseIdx (A.length+i)=A++(Bi e sz (F.eraseIdx i)++R):=by
 have hlt:i<(Bi e sz F).length:=by have:=(List.getElem?_eq_some_iff.1 hi).1;simpa [Bi]using this
 rw[List.eraseIdx_append_of_length_le (by omega),Nat.add_sub_cancel_left,List.eraseIdx_append_of_lt_length hlt,Mn]
theorem SH.RN(hi:F[i]?=some f)(h:SH w H (A++(Bi e sz F++R))):SH w H (.row f.1 e sz f.2.1.length f.2.2::(A++(Bi e sz (F.eraseIdx i)++R))):=by
 have:=h.front (Vn (A:=A) (e:=e) (sz:=sz) (R:=R) hi)
 rwa [LG hi]at this
theorem SH.JX(hi:F[i]?=some f)(h:SH w H (.row f'.1 e sz f'.2.1.length f'.2.2::(A++(Bi e sz (F.eraseIdx i)++R)))):SH w H (A++(Bi e sz (F.set i f')++R)):=by
 have hlt:i<F.length:=(List.getElem?_eq_some_iff.1 hi).1
 have hlt':i<(Bi e sz F).length:=by simpa [Bi]using hlt
 rw[←LG (A:=A) (e:=e) (sz:=sz) (R:=R) hi]at h
 have:=h.back (by simp;omega)
 rw[List.set_append_right _ _ (by omega),Nat.add_sub_cancel_left,List.set_append_left _ _ hlt']at this
 rwa [TS]
theorem SH.grow(h:SH w H (A++(Bi e sz F++R))):SH w H (A++(Bi e sz (F++[(.slice none 0 0,[],[])])++R)):=by
 have h1:=h.Cb e sz
 have hl:(Bi e sz F).length=F.length:=by simp[Bi]
 refine h1.pick (fun j=>if j<A.length+F.length then j+1 else if j=A.length+F.length then 0 else j) (fun j s hs=>?_) (fun j k hj hk he=>?_)
 ·have e1:A++(Bi e sz (F++[(.slice none 0 0,[],[])])++R)=(A++Bi e sz F)++(.row (.slice none 0 0) e sz 0 []::R):=by simp[Bi]
  have e2:A++(Bi e sz F++R)=(A++Bi e sz F)++R:=by simp
  rw[e1]at hs
  rw[e2]
  have hlen:(A++Bi e sz F).length=A.length+F.length:=by simp[Bi]
  by_cases h1:j<A.length+F.length
  ·rw[if_pos h1,List.getElem?_cons_succ]
   rw[List.getElem?_append_left (by omega)]at hs⊢
   exact hs
  ·rw[if_neg h1]
   by_cases h2:j=A.length+F.length
   ·rw[if_pos h2]
    rw[List.getElem?_append_right (by omega),hlen,h2,Nat.sub_self]at hs
    simpa using hs
   ·rw[if_neg h2]
    obtain⟨q,rfl⟩:∃q,j=A.length+F.length+q+1:=⟨j-(A.length+F.length)-1,by omega⟩
    rw[List.getElem?_append_right (by omega),hlen,show A.length+F.length+q+1-(A.length+F.length)=q+1 by omega,List.getElem?_cons_succ]at hs
    rw[List.getElem?_cons_succ,List.getElem?_append_right (by omega),hlen,show A.length+F.length+q-(A.length+F.length)=q by omega]
    exact hs
 ·split at he<;>split at he<;>(try split at he)<;>(try split at he)<;>omega
end
section
variable {α β : Type} {c : Cd α} {d : Cd β} {H : Hp} {D : List (List α)} {F : JW α} {G : JW β} {w : World} {A B R : List A2} {e e0 : TypeId} {sz sz0 i : Nat} {f f' : Value × List α × List Value}
variable {P : Program} {Q : Exit → Act → World → Prop} {n : Nat} {L : List (Nat × Value)} {x : Exit} {cd : Code}
theorem SH.Tt(hi:F[i]?=some f)(h:SH w H (A++(Bi e0 sz0 G++(Bi e sz F++R)))):SH w H (.row f.1 e sz f.2.1.length f.2.2::(A++(Bi e0 sz0 G++(Bi e sz (F.eraseIdx i)++R)))):=by
 rw[←List.append_assoc]at h⊢;exact h.RN hi
theorem SH.M4(hi:F[i]?=some f)(h:SH w H (.row f'.1 e sz f'.2.1.length f'.2.2::(A++(Bi e0 sz0 G++(Bi e sz (F.eraseIdx i)++R))))):SH w H (A++(Bi e0 sz0 G++(Bi e sz (F.set i f')++R))):=by
 rw[←List.append_assoc]at h⊢;exact h.JX hi
theorem SH.Yf(h:SH w H (A++(Bi e0 sz0 G++(Bi e sz F++R)))):SH w H (A++(Bi e0 sz0 G++(Bi e sz (F++[(.slice none 0 0,[],[])])++R))):=by
 rw[←List.append_assoc]at h⊢;exact h.grow
theorem Wp.RN(A:List A2)(hi:F[i]?=some f)(k:Wp P cd Q n L H (.row f.1 e sz f.2.1.length f.2.2::(A++(Bi e sz (F.eraseIdx i)++R)))):Wp P cd Q n L H (A++(Bi e sz F++R)):=fun a w hf hs=>k a w hf (hs.RN hi)
theorem Wp.Tt(A:List A2)(hi:F[i]?=some f)(k:Wp P cd Q n L H (.row f.1 e sz f.2.1.length f.2.2::(A++(Bi e0 sz0 G++(Bi e sz (F.eraseIdx i)++R))))):Wp P cd Q n L H (A++(Bi e0 sz0 G++(Bi e sz F++R))):=fun a w hf hs=>k a w hf (hs.Tt hi)
theorem At.JX(A:List A2)(f':Value×List α×List Value)(hi:F[i]?=some f)(k:At Q x n L H (A++(Bi e sz (F.set i f')++R))):At Q x n L H (.row f'.1 e sz f'.2.1.length f'.2.2::(A++(Bi e sz (F.eraseIdx i)++R))):=fun a w hf hs=>k a w hf (hs.JX hi)
theorem At.M4(A:List A2)(f':Value×List α×List Value)(hi:F[i]?=some f)(k:At Q x n L H (A++(Bi e0 sz0 G++(Bi e sz (F.set i f')++R)))):At Q x n L H (.row f'.1 e sz f'.2.1.length f'.2.2::(A++(Bi e0 sz0 G++(Bi e sz (F.eraseIdx i)++R)))):=fun a w hf hs=>k a w hf (hs.M4 hi)
theorem SH.G':∀ {F:JW α} {H:Hp},(∀f∈F,Ap c H f.2.1 f.2.2)→SH w H (A++(Bi e c.sz F++R))→∃H',H.le H'∧SH w H' (A++R)∧∀f∈F,AL c H' f.2.1 f.1
 | [],H,_,h=>⟨H,Hp.le.refl H,h,nofun⟩
 |f::F,H,hl,h=>by
  have hi:(A++(Bi e c.sz (f::F)++R))[A.length]?=some (.row f.1 e c.sz f.2.1.length f.2.2):=by simp[Bi]
  have hle:=h.Bk hi
  obtain⟨H1,g1,g2,g3⟩:=h.freeze hi
  have he:(A++(Bi e c.sz (f::F)++R)).eraseIdx A.length=A++(Bi e c.sz F++R):=by
   rw[List.eraseIdx_append_of_length_le (Nat.le_refl _),Nat.sub_self];rfl
  rw[he]at g2
  obtain⟨H2,k1,k2,k3⟩:=SH.G' (fun f' hf'=>(hl f' (by simp[hf'])).mono g1) g2
  have hs:AL c H1 f.2.1 f.1:=AL.of g3 rfl ((hl f (by simp)).mono g1) hle
  refine⟨H2,g1.trans k1,k2,fun f' hf'=>?_⟩
  rcases List.mem_cons.1 hf' with rfl|hf'
  ·exact hs.mono k1
  ·exact k3 f' hf'
theorem TU:∀ {F:JW α},(∀f∈F,AL c H f.2.1 f.1)→Ap (cL c) H (F.map (·.2.1)) (AO F)
 | [],_=>rfl
 |f::F,h=>⟨[f.1],AO F,rfl,⟨f.1,rfl,h f (by simp)⟩,TU fun g hg=>h g (by simp[hg])⟩
theorem JJ(h:A3 c H D F):(AO F).length=D.length:=by rw[←h.len];simp[AO]
end
section
variable {w : World} {H : Hp} {A B R : List A2}
theorem SH.Zx(h:SH w H (A++(B++R))):SH w H (B++(A++R)):=by
 refine h.pick (fun j=>if j<B.length then A.length+j else if j<B.length+A.length then j-B.length else j) (fun j s hs=>?_) (fun j k hj hk he=>?_)
 ·by_cases h1:j<B.length
  ·rw[if_pos h1]
   rw[List.getElem?_append_left h1]at hs
   rw[List.getElem?_append_right (by omega),Nat.add_sub_cancel_left,List.getElem?_append_left h1];exact hs
  ·rw[if_neg h1]
   rw[List.getElem?_append_right (by omega)]at hs
   by_cases h2:j<B.length+A.length
   ·rw[if_pos h2]
    rw[List.getElem?_append_left (by omega)]at hs⊢
    exact hs
   ·rw[if_neg h2]
    rw[List.getElem?_append_right (by omega)]at hs
    rw[List.getElem?_append_right (by omega),List.getElem?_append_right (by omega)]
    rw[show j-A.length-B.length=j-B.length-A.length by omega];exact hs
 ·split at he<;>split at he<;>(try split at he)<;>(try split at he)<;>omega
end
section
variable {α : Type} {F : JW α} {i : Nat} {f : Value × List α × List Value}
theorem LR(v:Value)(y:List α)(ys:List Value):(AO F).set i v=AO (F.set i (v,y,ys)):=by rw[TR]
theorem NF(v:Value)(y:List α)(ys:List Value)(hi:F[i]?=some f):E' (AO F) (i*1+0) [v]=AO (F.set i (v,y,ys)):=by
 rw[Nat.mul_one,Nat.add_zero,UT (by have:=(List.getElem?_eq_some_iff.1 hi).1;simpa [AO]using this)]
 exact LR v y ys
theorem At.BU{Q:Exit→Act→World→Prop}{n:Nat}{L:List (Nat×Value)}{H:Hp}{O:List A2}{x:Exit}{i size m:Nat}{v:Value}{e:TypeId}{xs:List Value}(hi:O[i]?=some (.row v e size m xs))(k:v.oneCell'=true→At Q x n L H O):At Q x n L H O:=fun a w hf hs=>k (hs.BU hi) a w hf hs
end
theorem Aa.G'{α:Type}{c:Cd α}{P:Program}{Q:Exit→Act→World→Prop}{ops:Array Oper}{rest:List Oper}{n:Nat}{L:List (Nat×Value)}{H:Hp}{R:List A2}{D:List (List α)}{F:JW α}{e:TypeId}(A:List A2)(hN:A3 c H D F)(k:∀H',H.le H'→Ap (cL c) H' D (AO F)→Aa P ops Q rest n L H' (A++R)):Aa P ops Q rest n L H (A++(Bi e c.sz F++R)):=fun a w hf hs=>by
 obtain⟨H',h1,h2,h3⟩:=hs.G' hN.lay
 have h4:=TU h3
 rw[hN.QX]at h4
 exact k H' h1 h4 a w hf h2
end Go.GK
namespace Go.GK
theorem Pr(a b c d:BitVec 64):word (bitsOf a b c d) 0=a:=by
 apply BitVec.eq_of_getLsbD_eq;intro j hj;rw[A_];simp[hj,bitsOf]
theorem Pq(a b c d:BitVec 64):word (bitsOf a b c d) 1=b:=by
 apply BitVec.eq_of_getLsbD_eq;intro j hj;rw[A_]
 simp only[hj,decide_true,Bool.true_and,bitsOf]
 rw[if_neg (by omega),if_pos (by omega),show 64*1+j-64=j by omega]
theorem Pp(a b c d:BitVec 64):word (bitsOf a b c d) 2=c:=by
 apply BitVec.eq_of_getLsbD_eq;intro j hj;rw[A_]
 simp only[hj,decide_true,Bool.true_and,bitsOf]
 rw[if_neg (by omega),if_neg (by omega),if_pos (by omega),show 64*2+j-128=j by omega]
theorem Po(a b c d:BitVec 64):word (bitsOf a b c d) 3=d:=by
 apply BitVec.eq_of_getLsbD_eq;intro j hj;rw[A_]
 simp only[hj,decide_true,Bool.true_and,bitsOf]
 rw[if_neg (by omega),if_neg (by omega),if_neg (by omega),show 64*3+j-192=j by omega]
section
variable {P : Program} {T : TypeId} {E : Operand → Option Value} {H : Hp} {O : List A2} {x y : Operand} {Tx Ty : TypeId}
theorem Ab.Ze{k:IntKind}{a:BitVec 64}{e:Int}(hx:E x=some (Ad a))(hy:E y=some (.int k e))(h0:0≤e):Ab P (.binOp .shl Tx x y Ty) T E H O (Ad (a<<<e.toNat)):=
 Ab.XQ (n:=e.toNat) hx (by rw[hy,Int.toNat_of_nonneg h0])
theorem TJ(a b:BitVec 64):IntKind.u64.wrap ((a.toNat:Int)+(b.toNat:Int))=((a+b).toNat:Int):=by
 simp[IntKind.wrap,IntKind.signed,IntKind.bits,BitVec.toNat_add]
theorem Ab.YT{a b:BitVec 64}(hx:E x=some (Ad a))(hy:E y=some (Ad b)):Ab P (.binOp .add Tx x y Ty) T E H O (Ad (a+b)):=by
 have h:=Ab.YS (P:=P) (T:=T) (H:=H) (O:=O) (Tx:=Tx) (Ty:=Ty) (k:= .u64) (m:=(a.toNat:Int)) (n:=(b.toNat:Int)) hx hy
 rwa [TJ]at h
end
theorem Kb{H:Hp}{k:Int}{a b c d:BitVec 64}{l:List Rx}{v:Value}(h:AL C' H l v):C'.Lay H (.mk k (bitsOf a b c d) l) [.int .i64 k,Ad a,Ad b,Ad c,Ad d,v]:=by
 have:=Tz (k:=k) (p:=bitsOf a b c d) h
 rwa [Pr,Pq,Pp,Po]at this
section
variable {P : Program} {T : TypeId} {E : Operand → Option Value} {H : Hp} {O : List A2} {x : Operand}
theorem Ab.I9{s i off ft:Nat}{d:TypeDesc}{cs:Array Value}{v:Value}(hF:Fv P s i off ft)(ht:P.underlying ft=some d)(hd:Hi d=false)(hx:E x=some (.agg cs))(hv:cs[off]?=some v):Ab P (.field s x i) T E H O v:= .AR fun ac w o ho _ he _=>by
 obtain⟨fs,f,h1,h2,h3,h4,_⟩:=hF.ex
 subst h3;subst h4
 simp[execOp,ho,he x _ hx,Instr.field,BC h1,h2,part,Ew ht,hd,hv,asAgg]
end
section
variable {P : Program} {T : TypeId} {E : Operand → Option Value} {H : Hp} {O : List A2} {α : Type} {c : Cd α}
theorem Bc.V9{op:Op}{e:TypeId}{l:List α}{xs:List Value}(h:Bc P op T E H (.emp::O) (fun v H' O'=>H'=H∧O'= .row v e c.sz l.length xs::O))(hL:Ap c H l xs):Bc P op T E H O (fun v H' O'=>O=O'∧AL c H' l v):=
 fun a w o next Q ho hT he hw k=>h a w o next Q ho hT he (hw.push (World.grownBy.refl w none) trivial (fun b hb=>by cases hb)) fun v w' H' O' hle hp hs=>by
  obtain⟨rfl,rfl⟩:=hp
  have hb:=hs.Bk (i:=0) rfl
  obtain⟨H2,g1,g2,g3⟩:=hs.freeze (i:=0) rfl
  exact k v w' H2 _ (hle.trans g1) ⟨rf,AL.of g3 rf (hL.mono g1) hb⟩ g2
theorem Bc.KW{t e:TypeId}{len bytes:Nat}{z:Value}{zs cs:Array Value}{ps:List (Nat×Operand)}{vs:List (Nat×Value)}{vcs:List (Nat×Array Value)}{l:List α}(ht:P.underlying t=some (.slice e))(hz:TI P e c.sz bytes z)(hzc:z.cells=zs)
  (hlen:Nat.ble (len*c.sz) 16777216=true) (h0:Nat.blt 0 (len*c.sz)=true) (hps:OP E ps=some vs) (hv:VC vs vcs) (hf:Ku (fun i=>some (i*c.sz,c.sz)) ((Array.range (len*c.sz)).map (zs[· %zs.size]!)) vcs=some cs) (hcs:cs.size=len*c.sz) (hll:len=l.length) (hL:Ap c H l cs.toList):
  Bc P (.buildSlice t len ps.toArray) T E H O (fun v H' O'=>O=O'∧AL c H' l v):=by
 subst hll
 exact Bc.V9 ((Bc.VH (ρ:=fun _=>undef) (i:=0) 0 ht hz hzc hlen h0 hps hv hf hcs rfl).mono (by rintro v H' O' ⟨h1,h2,_⟩;exact⟨h1,h2⟩)) hL
theorem Bc.VI{t e:TypeId}{bytes:Nat}{z v:Value}{cs:List Value}{x:Operand}{y:α}(ht:P.underlying t=some (.slice e))(hz:TI P e c.sz bytes z)(hlen:Nat.ble c.sz 16777216=true)(h0:Nat.blt 0 c.sz=true)(hx:E x=some v)(hc:v.cells.toList=cs)(hcs:cs.length=c.sz)(hL:Ap c H [y] cs):
  Bc P (.buildSlice t 1 #[(0,x)]) T E H O (fun v H' O'=>O=O'∧AL c H' [y] v):=
 Bc.V9 ((Bc.DM (ρ:=fun _=>undef) (i:=0) 0 ht hz hlen h0 hx hc hcs rfl).mono (by rintro v H' O' ⟨h1,h2,_⟩;exact⟨h1,h2⟩)) hL
end
end Go.GK
namespace Go.GK
open Go.RowKit Go.Deep
section
variable {H : Type} {enc : TypeId × Value → H} {P : Program} {w : World} {base : Nat} {spare : Nat → Bool} {held : Bool} {α β : Type}
def JV(enc:TypeId×Value→H)(P:Program)(w:World)(base:Nat)(spare:Nat→Bool)(held:Bool)(N:Nat)(c:Cd α)(t:TypeId):Prop:=
 ∀n,n<N→∀cs y,cs.length=c.sz→DataW.trod enc P w base spare held n t cs=some y→∃a,c.Lay (Hp.of w) a cs
theorem JV.i64{N:Nat}{t:TypeId}(ht:P.underlying t=some (.int .i64)):JV enc P w base spare held N Ar t:=fun n _ cs y _ hy=>by
 obtain⟨m,h1,_,_⟩:=DataW.trod_int ht hy
 exact⟨m,h1⟩
theorem JV.bs{N:Nat}{t e:TypeId}(ht:P.underlying t=some (.array 4 e))(he:P.underlying e=some (.int .u64))(h1:P.cellsOf e=1)(h4:P.cellsOf t=4):JV enc P w base spare held N KA t:=fun n _ cs y _ hy=>by
 obtain⟨p,hp⟩:=O_ ht he h1 h4 hy
 exact⟨p,hp⟩
theorem Ra{c:Cd α}{Hh:Hp} :∀ {l:List (α×List Value)},(∀x∈l,c.Lay Hh x.1 x.2)→Ap c Hh (l.map (·.1)) (l.flatMap (·.2))
 | [],_=>rfl
 |x::l,h=>⟨x.2,l.flatMap (·.2),rfl,h x (by simp),Ra fun y hy=>h y (by simp[hy])⟩
theorem Kf{sz:Nat} :∀ {l:List (α×List Value)},(∀x∈l,x.2.length=sz)→(l.flatMap (·.2)).length=l.length*sz
 | [],_=>by simp
 |x::l,h=>by
  rw[List.flatMap_cons,List.length_append,h x (by simp),Kf fun y hy=>h y (by simp[hy]),List.length_cons,Nat.add_mul];omega
theorem MP{sz:Nat} :∀ {l:List (α×List Value)} (_:∀x∈l,x.2.length=sz) (i j:Nat) (x:α×List Value),l[i]?=some x→j<sz→(l.flatMap (·.2))[i*sz+j]?=x.2[j]?
 | [],_,i,j,x,h,_=>by simp at h
 |y::l,hl,0,j,x,h,hj=>by
  simp at h;subst h
  rw[List.flatMap_cons,Nat.zero_mul,Nat.zero_add,List.getElem?_append_left (by rw[hl y (by simp)];exact hj)]
 |y::l,hl,i+1,j,x,h,hj=>by
  rw[List.flatMap_cons,List.getElem?_append_right (by rw[hl y (by simp),Nat.add_mul];omega),hl y (by simp)]
  rw[show(i+1)*sz+j-sz=i*sz+j by rw[Nat.add_mul];omega]
  exact MP (fun z hz=>hl z (by simp[hz])) i j x (by simpa using h) hj
theorem JV.sl{N:Nat}{c:Cd α}{t e:TypeId}(ht:P.underlying t=some (.slice e))(hc:P.cellsOf e=c.sz)(h:JV enc P w base spare held N c e):JV enc P w base spare held (N+1) (cL c) t:=fun n hn cs y _ hy=>by
 have hfin:∃v,cs=[v]∧∃l:List α,AL c (Hp.of w) l v:=by
  rcases DataW.trod_slice ht hy with⟨h0,_⟩|⟨a,len,cap,elems,rest,n',hfu,h0,_,hb,hl,hm,hlen,hel,_,_⟩
  ·exact⟨_,h0,[],AL.nil⟩
  ·obtain⟨l,h1,h2⟩:=Kz (Q:=fun i (b:α×List Value)=>c.Lay (Hp.of w) b.1 b.2∧∀j u,b.2[j]?=some u→w.cell? (a.add (i*c.sz+j))=some u) len fun i hi=>by
    have he:=hel i hi
    rw[show elems[i]?=some elems[i] by simp]at he
    simp only[Option.bind_eq_some_iff]at he
    obtain⟨cs',hcs,htr⟩:=he
    obtain⟨hbl,hlen',hcell⟩:=World.cells?_some hcs
    rw[hc]at hlen'
    obtain⟨b,hR⟩:=h n' (by omega) cs' _ hlen' htr
    refine⟨(b,cs'),hR,fun j u hj=>?_⟩
    have hj':j<c.sz:=by rw[←hlen'];exact(List.getElem?_eq_some_iff.1 hj).1
    have:=hcell j (by rw[hc];exact hj')
    rw[D_,hc,hj]at this
    exact this
   have hQ:∀x∈l,c.Lay (Hp.of w) x.1 x.2:=fun x hx=>by
    obtain⟨i,hi,rfl⟩:=List.getElem_of_mem hx
    exact(h2 i _ (List.getElem?_eq_getElem hi)).1
   have hsz:∀x∈l,x.2.length=c.sz:=fun x hx=>c.len (hQ x hx)
   refine⟨_,h0,l.map (·.1),⟨⟨l.flatMap (·.2),⟨by rw[Kf hsz];simp, .inr ⟨a,cap,by rw[List.length_map,h1],by rw[List.length_map,h1];exact hl⟩,fun k u hk=>?_⟩,Ra hQ⟩,by rw[List.length_map,h1];unfold maxLen at hm;omega⟩⟩
   have hlt:k<l.length*c.sz:=by rw[←Kf hsz];exact(List.getElem?_eq_some_iff.1 hk).1
   have hs0:0<c.sz:=Nat.pos_of_ne_zero fun h=>by rw[h]at hlt;simp at hlt
   have hi:k/c.sz<l.length:=Nat.div_lt_of_lt_mul (by rw[Nat.mul_comm];exact hlt)
   have hk2:k=k/c.sz*c.sz+k %c.sz:=by rw[Nat.mul_comm];exact(Nat.div_add_mod k c.sz).symm
   have hg:=MP hsz (k/c.sz) (k %c.sz) l[k/c.sz] (List.getElem?_eq_getElem hi) (Nat.mod_lt _ hs0)
   rw[←hk2,hk]at hg
   have:=(h2 (k/c.sz) l[k/c.sz] (List.getElem?_eq_getElem hi)).2 (k %c.sz) u hg.symm
   rw[←hk2]at this
   exact Hj.U_ this
 obtain⟨v,h1,l,h2⟩:=hfin
 exact⟨l,v,h1,h2⟩
def Ux(enc:TypeId×Value→H)(P:Program)(w:World)(base:Nat)(spare:Nat→Bool)(held:Bool)(N:Nat)(c:Cd α)(off:Nat)(fs:List Field):Prop:=
 ∀n,n<N→∀cs:List Value,(∀f∈fs,∃y,DataW.trod enc P w base spare held n f.type ((cs.drop f.offset).take (P.cellsOf f.type))=some y)→off+c.sz≤cs.length→∃a,c.Lay (Hp.of w) a ((cs.drop off).take c.sz)
theorem Ux.one{N:Nat}{c:Cd α}{off:Nat}{f:Field}(h:JV enc P w base spare held N c f.type)(hc:P.cellsOf f.type=c.sz)(ho:f.offset=off):Ux enc P w base spare held N c off [f]:=fun n hn cs hf hl=>by
 obtain⟨y,hy⟩:=hf f (by simp)
 rw[hc,ho]at hy
 exact h n hn _ y (by simp;omega) hy
theorem Ux.cons{N:Nat}{c:Cd α}{d:Cd β}{off:Nat}{f:Field}{fs:List Field}(h:JV enc P w base spare held N c f.type)(hc:P.cellsOf f.type=c.sz)(ho:f.offset=off)(hr:Ux enc P w base spare held N d (off+c.sz) fs):
  Ux enc P w base spare held N (cP c d) off (f::fs):=fun n hn cs hf hl=>by
 have hl:off+(c.sz+d.sz)≤cs.length:=hl
 obtain⟨a,ha⟩:=Ux.one h hc ho n hn cs (fun g hg=>hf g (by simp at hg;simp[hg])) (by omega)
 obtain⟨b,hb⟩:=hr n hn cs (fun g hg=>hf g (by simp[hg])) (by omega)
 refine⟨(a,b),_,_,?_,ha,hb⟩
 show(cs.drop off).take (c.sz+d.sz)=_
 rw[List.take_add,List.drop_drop]
theorem JV.st{N:Nat}{c:Cd α}{t:TypeId}{fs:Array Field}(ht:P.underlying t=some (.struct fs))(h:Ux enc P w base spare held N c 0 fs.toList):JV enc P w base spare held (N+1) c t:=fun n hn cs y hl hy=>by
 obtain⟨xs,n',hfu,_,hlen,hxs,hx⟩:=DataW.trod_struct ht hy
 obtain⟨a,ha⟩:=h n' (by omega) cs (fun f hf=>by
  obtain⟨i,hi,rfl⟩:=List.getElem_of_mem hf
  have:=hx i fs.toList[i] (by simp at hi⊢)
  rw[this]
  have hi':i<xs.length:=by rw[hxs];simpa using hi
  exact⟨xs[i],List.getElem?_eq_getElem hi'⟩) (by omega)
 refine⟨a,?_⟩
 rw[List.drop_zero,List.take_of_length_le (by omega)]at ha
 exact ha
theorem JV.rx{t c0 c1 c2:TypeId}{f0 f1 f2:Field}(ht:P.underlying t=some (.struct #[f0,f1,f2]))(hs:P.underlying c2=some (.slice t))(h0:∀N,JV enc P w base spare held N Ar c0)(h1:∀N,JV enc P w base spare held N KA c1)
  (e0:f0.type=c0) (e1:f1.type=c1) (e2:f2.type=c2) (o0:f0.offset=0) (o1:f1.offset=1) (o2:f2.offset=5) (s0:P.cellsOf c0=1) (s1:P.cellsOf c1=4) (s2:P.cellsOf c2=1) (st:P.cellsOf t=6):∀N,JV enc P w base spare held N C' t
 |0=>fun n hn=>by omega
 |N+1=>by
  subst e0;subst e1;subst e2
  have hsl:JV enc P w base spare held N (cL C') f2.type:=by
   cases N with
   |zero=>exact fun n hn=>by omega
   |succ M=>exact JV.sl hs st (JV.rx ht hs h0 h1 rfl rfl rfl o0 o1 o2 s0 s1 s2 st M)
  have hF:Ux enc P w base spare held N (cP Ar (cP KA (cL C'))) 0 #[f0,f1,f2].toList:=
   Ux.cons (h0 N) s0 o0 (Ux.cons (h1 N) s1 o1 (Ux.one hsl s2 o2))
  have hB:=JV.st ht hF
  intro n hn cs y hl hy
  obtain⟨⟨k,p,l⟩,c1,c2,rfl,g1,c3,c4,rfl,g2,v,g3,g4⟩:=hB n hn cs y hl hy
  have g1:c1=[.int .i64 k]:=g1
  have g2:c3=(BE p).toList:=g2
  subst g1;subst g2;subst g3
  exact⟨.mk k p l,CC.2 ⟨v,rf,g4⟩⟩
theorem JV.YR{r:Reach}{b0:Nat}{c:Cd α}{t:TypeId}{fs:Array Field}{v:Value}{d:DataW H}{p:List MemPlace}(ht:P.underlying t=some (.struct fs))(hc:P.cellsOf t=c.sz)(h:∀N,JV enc P w base spare held N c t)
  (hv:Value.okWide P w r b0 t v) (hd:DataW.Trod enc P w base spare held t v d p):∃cs:Array Value,∃l,v= .agg cs∧c.Lay (Hp.of w) l cs.toList:=by
 obtain⟨cs,rfl,hs⟩:=Go.WideShapes.okWide_struct ht hv
 obtain⟨fuel,hf⟩:=hd
 obtain⟨l,hl⟩:=h (fuel+1) fuel (by omega) cs.toList _ (by simp[hs,hc]) hf
 exact⟨cs,l,rf,hl⟩
end
end Go.GK
namespace Go.GK
open Go.RowKit Go.Deep
section
variable {H : Type} {enc : TypeId × Value → H} {P : Program} {w : World} {base : Nat} {spare : Nat → Bool} {held : Bool}
theorem Wy{r:Reach}{b0:Nat}{t:TypeId}{v:Value}{d:DataW H}{p:List MemPlace}(ht:P.underlying t=some .string)(hv:Value.okWide P w r b0 t v)(hd:DataW.Trod enc P w base spare held t v d p):∃l:BF,v=sv l:=by
 obtain⟨s,rfl,_⟩:=Go.ChangeMaps.open_string ht hv hd
 exact⟨s.data.toList,rf⟩
theorem El.of{W:World}{g:Nat}(hg:P.globalNamed "internal/strconv.uint64pow10" =some g)(h:Lib.TabIs P W "internal/strconv.uint64pow10" .u64 Lib.pow10Tab):El P (Hp.of W):=fun w O hs=>by
 have hb:=hs.below
 have hlt:g<W.heap.size:=by
  unfold Lib.TabIs World.var? at h
  rw[hg]at h
  simp only[Option.bind_some]at h
  split at h
  ·rename_i he
   exact(Array.getElem?_eq_some_iff.1 he).1
  ·cases h
 exact Go.var?_below hb hg hlt h
end
end Go.GK
namespace Go.Proofs.YtjmbmodmepdmjabGreatDoor
open Go.GK
theorem follows:Tryz.prog.follows .mixedOrders=true:=by kernel_rfl
theorem DP:TI Tryz.prog 3 1 8 (.int .i64 0):=TI.of (by kernel_rfl)
theorem JY:TI Tryz.prog 4 1 1 (.bool false):=TI.of (by kernel_rfl)
theorem V5:TI Tryz.prog 5 1 1 (.int .u8 0):=TI.of (by kernel_rfl)
theorem E2:TI Tryz.prog 22 1 8 (.int .u64 0):=TI.of (by kernel_rfl)
theorem Bu:TI Tryz.prog 24 4 32 (.agg #[.int .u64 0, .int .u64 0, .int .u64 0, .int .u64 0]):=TI.of (by kernel_rfl)
theorem XI:TI Tryz.prog 25 1 24 (.slice none 0 0):=TI.of (by kernel_rfl)
theorem AH:TI Tryz.prog 27 6 64 (.agg #[.int .i64 0, .int .u64 0, .int .u64 0, .int .u64 0, .int .u64 0, .slice none 0 0]):=TI.of (by kernel_rfl)
theorem Ww:TI Tryz.prog 30 1 24 (.slice none 0 0):=TI.of (by kernel_rfl)
theorem A5:TI Tryz.prog 32 1 24 (.agg #[.slice none 0 0]):=TI.of (by kernel_rfl)
theorem UQ:TI Tryz.prog 43 1 24 (.slice none 0 0):=TI.of (by kernel_rfl)
theorem BX:TI Tryz.prog 45 2 32 (.agg #[.bool false, .slice none 0 0]):=TI.of (by kernel_rfl)
theorem Cz:TI Tryz.prog 47 3 16 (.agg #[.int .u8 0, .int .u8 0, .int .i64 0]):=TI.of (by kernel_rfl)
theorem Wv:TI Tryz.prog 52 1 24 (.slice none 0 0):=TI.of (by kernel_rfl)
theorem Za:TI Tryz.prog 53 1 24 (.slice none 0 0):=TI.of (by kernel_rfl)
theorem Y_:TI Tryz.prog 55 3 56 (.agg #[.slice none 0 0, .slice none 0 0, .int .i64 0]):=TI.of (by kernel_rfl)
theorem Eo:TI Tryz.prog 65 1 24 (.slice none 0 0):=TI.of (by kernel_rfl)
theorem N5:TI Tryz.prog 66 1 24 (.slice none 0 0):=TI.of (by kernel_rfl)
theorem IW:TI Tryz.prog 68 6 48 (.agg #[.int .u64 0, .int .u64 0, .int .u64 0, .int .u64 0, .int .i64 0, .int .i64 0]):=TI.of (by kernel_rfl)
theorem Pu:TI Tryz.prog 83 5 40 (.agg #[.int .u64 0, .int .u64 0, .int .u64 0, .int .u64 0, .int .i64 0]):=TI.of (by kernel_rfl)
theorem K4:TI Tryz.prog 87 2 2 (.agg #[.int .u8 0, .int .u8 0]):=TI.of (by kernel_rfl)
theorem XH:TI Tryz.prog 95 1 24 (.slice none 0 0):=TI.of (by kernel_rfl)
theorem Y9:TI Tryz.prog 97 4 96 (.agg #[.slice none 0 0, .slice none 0 0, .slice none 0 0, .slice none 0 0]):=TI.of (by kernel_rfl)
theorem XM:TI Tryz.prog 105 8 64 (.agg #[.int .u64 0, .int .u64 0, .int .u64 0, .int .u64 0, .int .u64 0, .int .u64 0, .int .u64 0, .int .u64 0]):=TI.of (by kernel_rfl)
theorem XL:TI Tryz.prog 109 1 8 (.pointer none):=TI.of (by kernel_rfl)
theorem XK:TI Tryz.prog 110 1 24 (.slice none 0 0):=TI.of (by kernel_rfl)
theorem V6:TI Tryz.prog 112 2 32 (.agg #[.pointer none, .slice none 0 0]):=TI.of (by kernel_rfl)
theorem XJ:TI Tryz.prog 123 257 257 (.agg (List.replicate 257 (.bool false)).toArray):=TI.of (by kernel_rfl)
theorem Yy:EH Tryz.prog 4:=⟨Tryz.f4,Tryz.func4,by kernel_rfl,rfl⟩
theorem TZ:EH Tryz.prog 5:=⟨Tryz.f5,Tryz.func5,by kernel_rfl,rfl⟩
theorem Xa:EH Tryz.prog 6:=⟨Tryz.f6,Tryz.func6,by kernel_rfl,rfl⟩
theorem OQ:EH Tryz.prog 7:=⟨Tryz.f7,Tryz.func7,by kernel_rfl,rfl⟩
theorem HL:EH Tryz.prog 8:=⟨Tryz.f8,Tryz.func8,by kernel_rfl,rfl⟩
theorem W_:EH Tryz.prog 9:=⟨Tryz.f9,Tryz.func9,by kernel_rfl,rfl⟩
theorem Kx:EH Tryz.prog 10:=⟨Tryz.f10,Tryz.func10,by kernel_rfl,rfl⟩
theorem Wm:EH Tryz.prog 11:=⟨Tryz.f11,Tryz.func11,by kernel_rfl,rfl⟩
theorem Wl:EH Tryz.prog 12:=⟨Tryz.f12,Tryz.func12,by kernel_rfl,rfl⟩
theorem QV:EH Tryz.prog 13:=⟨Tryz.f13,Tryz.func13,by kernel_rfl,rfl⟩
theorem Fo:EH Tryz.prog 14:=⟨Tryz.f14,Tryz.func14,by kernel_rfl,rfl⟩
theorem Kw:EH Tryz.prog 15:=⟨Tryz.f15,Tryz.func15,by kernel_rfl,rfl⟩
theorem LU:EH Tryz.prog 16:=⟨Tryz.f16,Tryz.func16,by kernel_rfl,rfl⟩
theorem QU:EH Tryz.prog 17:=⟨Tryz.f17,Tryz.func17,by kernel_rfl,rfl⟩
theorem QT:EH Tryz.prog 18:=⟨Tryz.f18,Tryz.func18,by kernel_rfl,rfl⟩
theorem YI:EH Tryz.prog 19:=⟨Tryz.f19,Tryz.func19,by kernel_rfl,rfl⟩
theorem YH:EH Tryz.prog 20:=⟨Tryz.f20,Tryz.func20,by kernel_rfl,rfl⟩
theorem T2:EH Tryz.prog 21:=⟨Tryz.f21,Tryz.func21,by kernel_rfl,rfl⟩
theorem Wk:EH Tryz.prog 22:=⟨Tryz.f22,Tryz.func22,by kernel_rfl,rfl⟩
theorem OR:EH Tryz.prog 23:=⟨Tryz.f23,Tryz.func23,by kernel_rfl,rfl⟩
theorem QS:EH Tryz.prog 24:=⟨Tryz.f24,Tryz.func24,by kernel_rfl,rfl⟩
theorem YG:EH Tryz.prog 25:=⟨Tryz.f25,Tryz.func25,by kernel_rfl,rfl⟩
theorem YF:EH Tryz.prog 26:=⟨Tryz.f26,Tryz.func26,by kernel_rfl,rfl⟩
theorem YE:EH Tryz.prog 27:=⟨Tryz.f27,Tryz.func27,by kernel_rfl,rfl⟩
theorem YD:EH Tryz.prog 28:=⟨Tryz.f28,Tryz.func28,by kernel_rfl,rfl⟩
theorem Wj:EH Tryz.prog 29:=⟨Tryz.f29,Tryz.func29,by kernel_rfl,rfl⟩
theorem Wi:EH Tryz.prog 30:=⟨Tryz.f30,Tryz.func30,by kernel_rfl,rfl⟩
theorem QR:EH Tryz.prog 31:=⟨Tryz.f31,Tryz.func31,by kernel_rfl,rfl⟩
theorem Wh:EH Tryz.prog 32:=⟨Tryz.f32,Tryz.func32,by kernel_rfl,rfl⟩
theorem Kv:EH Tryz.prog 33:=⟨Tryz.f33,Tryz.func33,by kernel_rfl,rfl⟩
theorem YC:EH Tryz.prog 34:=⟨Tryz.f34,Tryz.func34,by kernel_rfl,rfl⟩
theorem T1:EH Tryz.prog 35:=⟨Tryz.f35,Tryz.func35,by kernel_rfl,rfl⟩
theorem YB:EH Tryz.prog 36:=⟨Tryz.f36,Tryz.func36,by kernel_rfl,rfl⟩
theorem YA:EH Tryz.prog 37:=⟨Tryz.f37,Tryz.func37,by kernel_rfl,rfl⟩
theorem Yz:EH Tryz.prog 38:=⟨Tryz.f38,Tryz.func38,by kernel_rfl,rfl⟩
theorem T0:EH Tryz.prog 40:=⟨Tryz.f40,Tryz.func40,by kernel_rfl,rfl⟩
theorem Wg:EH Tryz.prog 41:=⟨Tryz.f41,Tryz.func41,by kernel_rfl,rfl⟩
theorem Yx:EH Tryz.prog 42:=⟨Tryz.f42,Tryz.func42,by kernel_rfl,rfl⟩
theorem Yw:EH Tryz.prog 43:=⟨Tryz.f43,Tryz.func43,by kernel_rfl,rfl⟩
theorem Yv:EH Tryz.prog 44:=⟨Tryz.f44,Tryz.func44,by kernel_rfl,rfl⟩
theorem Yu:EH Tryz.prog 45:=⟨Tryz.f45,Tryz.func45,by kernel_rfl,rfl⟩
theorem Yt:EH Tryz.prog 46:=⟨Tryz.f46,Tryz.func46,by kernel_rfl,rfl⟩
theorem Ys:EH Tryz.prog 47:=⟨Tryz.f47,Tryz.func47,by kernel_rfl,rfl⟩
theorem QQ:EH Tryz.prog 48:=⟨Tryz.f48,Tryz.func48,by kernel_rfl,rfl⟩
theorem Yr:EH Tryz.prog 49:=⟨Tryz.f49,Tryz.func49,by kernel_rfl,rfl⟩
theorem Wf:EH Tryz.prog 50:=⟨Tryz.f50,Tryz.func50,by kernel_rfl,rfl⟩
theorem Yq:EH Tryz.prog 51:=⟨Tryz.f51,Tryz.func51,by kernel_rfl,rfl⟩
theorem Yp:EH Tryz.prog 52:=⟨Tryz.f52,Tryz.func52,by kernel_rfl,rfl⟩
theorem TY:EH Tryz.prog 55:=⟨Tryz.f55,Tryz.func55,by kernel_rfl,rfl⟩
theorem TX:EH Tryz.prog 56:=⟨Tryz.f56,Tryz.func56,by kernel_rfl,rfl⟩
theorem We:EH Tryz.prog 57:=⟨Tryz.f57,Tryz.func57,by kernel_rfl,rfl⟩
theorem Yo:EH Tryz.prog 58:=⟨Tryz.f58,Tryz.func58,by kernel_rfl,rfl⟩
theorem Wd:EH Tryz.prog 60:=⟨Tryz.f60,Tryz.func60,by kernel_rfl,rfl⟩
theorem Wc:EH Tryz.prog 61:=⟨Tryz.f61,Tryz.func61,by kernel_rfl,rfl⟩
theorem Wb:EH Tryz.prog 62:=⟨Tryz.f62,Tryz.func62,by kernel_rfl,rfl⟩
theorem Yn:EH Tryz.prog 74:=⟨Tryz.f74,Tryz.func74,by kernel_rfl,rfl⟩
theorem QP:Tryz.prog.eqGuardType Tryz.prog.depth 24=false:=by kernel_rfl
theorem CP:Fv Tryz.prog 27 0 0 3:=Fv.of (k:=0) (by kernel_rfl)
theorem GG:Fv Tryz.prog 27 1 1 24:=Fv.of (k:=3) (by kernel_rfl)
theorem CA:Fv Tryz.prog 27 2 5 25:=Fv.of (k:=0) (by kernel_rfl)
theorem BO:Fv Tryz.prog 32 0 0 30:=Fv.of (k:=0) (by kernel_rfl)
theorem GF:Fv Tryz.prog 45 0 0 4:=Fv.of (k:=0) (by kernel_rfl)
theorem Ct:Fv Tryz.prog 45 1 1 43:=Fv.of (k:=0) (by kernel_rfl)
theorem Gh:Fv Tryz.prog 47 0 0 5:=Fv.of (k:=0) (by kernel_rfl)
theorem Gg:Fv Tryz.prog 47 1 1 5:=Fv.of (k:=0) (by kernel_rfl)
theorem Gf:Fv Tryz.prog 47 2 2 3:=Fv.of (k:=0) (by kernel_rfl)
theorem Hv:Fv Tryz.prog 55 0 0 52:=Fv.of (k:=0) (by kernel_rfl)
theorem Hu:Fv Tryz.prog 55 1 1 53:=Fv.of (k:=0) (by kernel_rfl)
theorem PQ:Fv Tryz.prog 55 2 2 3:=Fv.of (k:=0) (by kernel_rfl)
theorem PO:Fv Tryz.prog 68 0 0 24:=Fv.of (k:=3) (by kernel_rfl)
theorem TQ:Fv Tryz.prog 68 1 4 3:=Fv.of (k:=0) (by kernel_rfl)
theorem W7:Fv Tryz.prog 68 2 5 3:=Fv.of (k:=0) (by kernel_rfl)
theorem W6:Fv Tryz.prog 83 0 0 24:=Fv.of (k:=3) (by kernel_rfl)
theorem W5:Fv Tryz.prog 83 1 4 3:=Fv.of (k:=0) (by kernel_rfl)
theorem Ht:Fv Tryz.prog 97 0 0 65:=Fv.of (k:=0) (by kernel_rfl)
theorem FC:Fv Tryz.prog 97 1 1 52:=Fv.of (k:=0) (by kernel_rfl)
theorem I8:Fv Tryz.prog 97 2 2 95:=Fv.of (k:=0) (by kernel_rfl)
theorem Ge:Fv Tryz.prog 97 3 3 65:=Fv.of (k:=0) (by kernel_rfl)
theorem KN:Fv Tryz.prog 112 0 0 109:=Fv.of (k:=0) (by kernel_rfl)
theorem Iv:Fv Tryz.prog 112 1 1 110:=Fv.of (k:=0) (by kernel_rfl)
theorem TH:QM Tryz.prog 47 [.u8, .u8, .i64]=true:=by kernel_rfl
theorem II:placesOf Tryz.prog 27=some [(0,1),(1,4),(5,1)]:=by kernel_rfl
theorem HB:placesOf Tryz.prog 32=some [(0,1)]:=by kernel_rfl
theorem HV:placesOf Tryz.prog 45=some [(0,1),(1,1)]:=by kernel_rfl
theorem Jl:placesOf Tryz.prog 47=some [(0,1),(1,1),(2,1)]:=by kernel_rfl
theorem X0:placesOf Tryz.prog 55=some [(0,1),(1,1),(2,1)]:=by kernel_rfl
theorem XZ:placesOf Tryz.prog 68=some [(0,4),(4,1),(5,1)]:=by kernel_rfl
theorem XY:placesOf Tryz.prog 83=some [(0,4),(4,1)]:=by kernel_rfl
theorem XW:placesOf Tryz.prog 97=some [(0,1),(1,1),(2,1),(3,1)]:=by kernel_rfl
abbrev u1:=Tryz.underlying1
abbrev u2:=Tryz.underlying2
abbrev u3:=Tryz.underlying3
abbrev u4:=Tryz.underlying4
abbrev u5:=Tryz.underlying5
abbrev u8:=Tryz.underlying8
abbrev u9:=Tryz.underlying9
abbrev Y0:=Tryz.underlying22
abbrev K1:=Tryz.underlying24
abbrev Da:=Tryz.underlying25
abbrev DJ:=Tryz.underlying27
abbrev C9:=Tryz.underlying30
abbrev u32:=Tryz.underlying32
abbrev EL:=Tryz.underlying43
abbrev Sq:=Tryz.underlying45
abbrev V4:=Tryz.underlying47
abbrev FH:=Tryz.underlying52
abbrev Rh:=Tryz.underlying53
abbrev u64:=Tryz.underlying64
abbrev Cv:=Tryz.underlying65
abbrev Sb:=Tryz.underlying66
abbrev Y8:=Tryz.underlying68
abbrev Xx:=Tryz.underlying69
abbrev Y7:=Tryz.underlying72
abbrev UL:=Tryz.underlying79
abbrev YZ:=Tryz.underlying80
abbrev ZF:=Tryz.underlying83
abbrev Zw:=Tryz.underlying85
abbrev Y6:=Tryz.underlying87
abbrev KG:=Tryz.underlying95
abbrev NX:=Tryz.underlying100
abbrev UM:=Tryz.underlying123
end Go.Proofs.YtjmbmodmepdmjabGreatDoor
namespace Go.Proofs
open Go.Shelf
def Tryz.Ny:Go.Shelf.Ren:=⟨fun|171=>56|243=>75|246=>91|283=>96|284=>97|285=>98|286=>99|129=>73|317=>101|318=>102|319=>103|320=>104|337=>105|338=>106|n=>n,fun|3=>3|9=>9|2=>2|4=>4|171=>155|0=>0|53=>22|37=>110|5=>5|173=>157|212=>162|51=>133|20=>20|213=>163|46=>108|232=>164|233=>165|n=>n,fun|17=>0|18=>1|19=>2|n=>n⟩
theorem Tryz.Tw:Go.Proofs.LaysM.n171 Tryz.prog Tryz.Ny:= {
 mixed:=by kernel_rfl
 f129:=Tryz.func73.trans (congrArg some (by kernel_rfl))
 f171:=Tryz.func56.trans (congrArg some (by kernel_rfl))
 f243:=Tryz.func75.trans (congrArg some (by kernel_rfl))
 f246:=Tryz.func91.trans (congrArg some (by kernel_rfl))
 f283:=Tryz.func96.trans (congrArg some (by kernel_rfl))
 f284:=Tryz.func97.trans (congrArg some (by kernel_rfl))
 f285:=Tryz.func98.trans (congrArg some (by kernel_rfl))
 f286:=Tryz.func99.trans (congrArg some (by kernel_rfl))
 f317:=Tryz.func101.trans (congrArg some (by kernel_rfl))
 f318:=Tryz.func102.trans (congrArg some (by kernel_rfl))
 f319:=Tryz.func103.trans (congrArg some (by kernel_rfl))
 f320:=Tryz.func104.trans (congrArg some (by kernel_rfl))
 f337:=Tryz.func105.trans (congrArg some (by kernel_rfl))
 f338:=Tryz.func106.trans (congrArg some (by kernel_rfl))
 t0:=Tryz.underlying0
 a0:=Tryz.isAgg0
 z0:=Tryz.sizeOf0
 v0:=Tryz.zeroValue0
 t2:=Tryz.underlying2
 a2:=Tryz.isAgg2
 z2:=Tryz.sizeOf2
 v2:=Tryz.zeroValue2
 t3:=Tryz.underlying3
 a3:=Tryz.isAgg3
 z3:=Tryz.sizeOf3
 v3:=Tryz.zeroValue3
 t4:=Tryz.underlying4
 a4:=Tryz.isAgg4
 z4:=Tryz.sizeOf4
 v4:=Tryz.zeroValue4
 t5:=Tryz.underlying5
 a5:=Tryz.isAgg5
 z5:=Tryz.sizeOf5
 v5:=Tryz.zeroValue5
 t9:=Tryz.underlying9
 a9:=Tryz.isAgg9
 z9:=Tryz.sizeOf9
 v9:=Tryz.zeroValue9
 t20:=Tryz.underlying20
 a20:=Tryz.isAgg20
 z20:=Tryz.sizeOf20
 v20:=Tryz.zeroValue20
 t37:=Tryz.underlying110
 a37:=Tryz.isAgg110
 z37:=Tryz.sizeOf110
 v37:=Tryz.zeroValue110
 t46:=Tryz.underlying108
 a46:=Tryz.isAgg108
 z46:=Tryz.sizeOf108
 v46:=Tryz.zeroValue108
 t51:=Tryz.underlying133
 a51:=Tryz.isAgg133
 z51:=Tryz.sizeOf133
 v51:=Tryz.zeroValue133
 t53:=Tryz.underlying22
 a53:=Tryz.isAgg22
 z53:=Tryz.sizeOf22
 v53:=Tryz.zeroValue22
 t171:=Tryz.underlying155
 a171:=Tryz.isAgg155
 z171:=Tryz.sizeOf155
 v171:=Tryz.zeroValue155
 t173:=Tryz.underlying157
 a173:=Tryz.isAgg157
 z173:=Tryz.sizeOf157
 v173:=Tryz.zeroValue157
 t212:=Tryz.underlying162
 a212:=Tryz.isAgg162
 z212:=Tryz.sizeOf162
 v212:=Tryz.zeroValue162
 t213:=Tryz.underlying163
 a213:=Tryz.isAgg163
 z213:=Tryz.sizeOf163
 t232:=Tryz.underlying164
 a232:=Tryz.isAgg164
 z232:=Tryz.sizeOf164
 v232:=Tryz.zeroValue164
 t233:=Tryz.underlying165
 a233:=Tryz.isAgg165
 z233:=Tryz.sizeOf165
 v233:=Tryz.zeroValue165
 g17:=by kernel_rfl
 g18:=by kernel_rfl
 g19:=by kernel_rfl
 i0:=by kernel_rfl
 i2:=by kernel_rfl
 i3:=by kernel_rfl
 i4:=by kernel_rfl
 i5:=by kernel_rfl
 i9:=by kernel_rfl
 i20:=by kernel_rfl
 i37:=by kernel_rfl
 i46:=by kernel_rfl
 i51:=by kernel_rfl
 i53:=by kernel_rfl
 i171:=by kernel_rfl
 i173:=by kernel_rfl
 i212:=by kernel_rfl
 i232:=by kernel_rfl
 i233:=by kernel_rfl
 m17:=by kernel_rfl
 m18:=by kernel_rfl
 m19:=by kernel_rfl}
open Go.RowKit Go.Sort Go.Lib in
theorem Tryz.strconv_Itoa(n:Int)(h0: -9223372036854775808≤n)(h1:n≤9223372036854775807)(w:World)(htab:Lib.TabIs Tryz.prog w "internal/strconv.uint64pow10" .u64 Lib.pow10Tab):
 Calls Tryz.prog 56 #[.int .i64 n] w fun e w'=>e= .returned (.string ⟨(Lib.itoa n).toArray⟩)∧∃k os,w'=grow (w.drewN k) os:=Any.strconv_Itoa Tryz.Tw n h0 h1 w htab
def Tryz.OB:Go.Shelf.Ren:=⟨fun|189=>34|125=>54|257=>53|128=>72|129=>73|294=>63|295=>64|296=>65|297=>66|298=>67|299=>68|216=>69|300=>70|301=>71|328=>84|329=>85|330=>86|331=>87|332=>88|215=>89|343=>95|n=>n,fun|28=>65|3=>3|46=>108|0=>0|51=>133|53=>22|4=>4|183=>126|182=>125|131=>81|5=>5|9=>9|218=>141|222=>145|228=>152|229=>153|n=>n,fun|n=>n⟩
theorem Tryz.QI:Go.Proofs.Lays.n189 Tryz.prog Tryz.OB:= {
 mixed:=by kernel_rfl
 f125:=Tryz.func54.trans (congrArg some (by kernel_rfl))
 f128:=Tryz.func72.trans (congrArg some (by kernel_rfl))
 f129:=Tryz.func73.trans (congrArg some (by kernel_rfl))
 f189:=Tryz.func34.trans (congrArg some (by kernel_rfl))
 f215:=Tryz.func89.trans (congrArg some (by kernel_rfl))
 f216:=Tryz.func69.trans (congrArg some (by kernel_rfl))
 f257:=Tryz.func53.trans (congrArg some (by kernel_rfl))
 f294:=Tryz.func63.trans (congrArg some (by kernel_rfl))
 f295:=Tryz.func64.trans (congrArg some (by kernel_rfl))
 f296:=Tryz.func65.trans (congrArg some (by kernel_rfl))
 f297:=Tryz.func66.trans (congrArg some (by kernel_rfl))
 f298:=Tryz.func67.trans (congrArg some (by kernel_rfl))
 f299:=Tryz.func68.trans (congrArg some (by kernel_rfl))
 f300:=Tryz.func70.trans (congrArg some (by kernel_rfl))
 f301:=Tryz.func71.trans (congrArg some (by kernel_rfl))
 f328:=Tryz.func84.trans (congrArg some (by kernel_rfl))
 f329:=Tryz.func85.trans (congrArg some (by kernel_rfl))
 f330:=Tryz.func86.trans (congrArg some (by kernel_rfl))
 f331:=Tryz.func87.trans (congrArg some (by kernel_rfl))
 f332:=Tryz.func88.trans (congrArg some (by kernel_rfl))
 f343:=Tryz.func95.trans (congrArg some (by kernel_rfl))
 t0:=Tryz.underlying0
 a0:=Tryz.isAgg0
 z0:=Tryz.sizeOf0
 v0:=Tryz.zeroValue0
 t3:=Tryz.underlying3
 a3:=Tryz.isAgg3
 z3:=Tryz.sizeOf3
 v3:=Tryz.zeroValue3
 t4:=Tryz.underlying4
 a4:=Tryz.isAgg4
 z4:=Tryz.sizeOf4
 v4:=Tryz.zeroValue4
 t5:=Tryz.underlying5
 a5:=Tryz.isAgg5
 z5:=Tryz.sizeOf5
 v5:=Tryz.zeroValue5
 t9:=Tryz.underlying9
 a9:=Tryz.isAgg9
 z9:=Tryz.sizeOf9
 v9:=Tryz.zeroValue9
 t28:=Tryz.underlying65
 a28:=Tryz.isAgg65
 z28:=Tryz.sizeOf65
 v28:=Tryz.zeroValue65
 t46:=Tryz.underlying108
 a46:=Tryz.isAgg108
 z46:=Tryz.sizeOf108
 v46:=Tryz.zeroValue108
 t51:=Tryz.underlying133
 a51:=Tryz.isAgg133
 z51:=Tryz.sizeOf133
 v51:=Tryz.zeroValue133
 t53:=Tryz.underlying22
 a53:=Tryz.isAgg22
 z53:=Tryz.sizeOf22
 v53:=Tryz.zeroValue22
 t131:=Tryz.underlying81
 a131:=Tryz.isAgg81
 z131:=Tryz.sizeOf81
 v131:=Tryz.zeroValue81
 t182:=Tryz.underlying125
 a182:=Tryz.isAgg125
 z182:=Tryz.sizeOf125
 v182:=Tryz.zeroValue125
 t183:=Tryz.underlying126
 a183:=Tryz.isAgg126
 z183:=Tryz.sizeOf126
 v183:=Tryz.zeroValue126
 t218:=Tryz.underlying141
 a218:=Tryz.isAgg141
 z218:=Tryz.sizeOf141
 v218:=Tryz.zeroValue141
 t222:=Tryz.underlying145
 a222:=Tryz.isAgg145
 z222:=Tryz.sizeOf145
 v222:=Tryz.zeroValue145
 t228:=Tryz.underlying152
 a228:=Tryz.isAgg152
 z228:=Tryz.sizeOf152
 v228:=Tryz.zeroValue152
 t229:=Tryz.underlying153
 a229:=Tryz.isAgg153
 z229:=Tryz.sizeOf153
 v229:=Tryz.zeroValue153}
open Go.Sort Go.RowKit in
theorem Tryz.slices_Sort_int(Az off cap:Nat)(zs:List Int)(w:World)(hH:Holds (Value.int .i64) w Az off zs.toArray)(hblk:Az<w.heap.size)(hsz:zs.length<4611686018427387904):
 Calls Tryz.prog 34 #[.slice (some ⟨Az,off,none⟩) zs.length cap] w fun e w'=>
  e= .returned (.tuple #[])∧∃n os,w'=grow (putRow (Value.int .i64) (Sort.ahead w n) Az off (zs.mergeSort fun x y=>decide (x≤y)).toArray) os:=Any.slices_Sort_int Tryz.QI Az off cap zs w hH hblk hsz
def Tryz.Ro:Go.Shelf.Ren:=⟨fun|6=>38|15=>54|14=>59|28=>72|29=>73|20=>76|21=>77|22=>78|23=>79|24=>80|25=>81|26=>82|27=>83|46=>92|47=>85|48=>86|49=>93|50=>94|57=>100|n=>n,fun|22=>43|24=>47|25=>89|3=>3|39=>108|0=>0|53=>133|55=>22|4=>4|46=>126|45=>125|50=>81|5=>5|9=>9|66=>141|70=>145|76=>152|77=>153|n=>n,fun|n=>n⟩
theorem Tryz.XO:Go.Proofs.SlLaysF0.n6 Tryz.prog Tryz.Ro:= {
 mixed:=by kernel_rfl
 f6:=⟨Tryz.f38.name,by decide,Tryz.func38.trans (congrArg some (by kernel_rfl))⟩
 f14:=⟨Tryz.f59.name,by decide,Tryz.func59.trans (congrArg some (by kernel_rfl))⟩
 f15:=Tryz.func54.trans (congrArg some (by kernel_rfl))
 f20:=⟨Tryz.f76.name,by decide,Tryz.func76.trans (congrArg some (by kernel_rfl))⟩
 f21:=⟨Tryz.f77.name,by decide,Tryz.func77.trans (congrArg some (by kernel_rfl))⟩
 f22:=⟨Tryz.f78.name,by decide,Tryz.func78.trans (congrArg some (by kernel_rfl))⟩
 f23:=⟨Tryz.f79.name,by decide,Tryz.func79.trans (congrArg some (by kernel_rfl))⟩
 f24:=⟨Tryz.f80.name,by decide,Tryz.func80.trans (congrArg some (by kernel_rfl))⟩
 f25:=⟨Tryz.f81.name,by decide,Tryz.func81.trans (congrArg some (by kernel_rfl))⟩
 f26:=⟨Tryz.f82.name,by decide,Tryz.func82.trans (congrArg some (by kernel_rfl))⟩
 f27:=⟨Tryz.f83.name,by decide,Tryz.func83.trans (congrArg some (by kernel_rfl))⟩
 f28:=Tryz.func72.trans (congrArg some (by kernel_rfl))
 f29:=Tryz.func73.trans (congrArg some (by kernel_rfl))
 f46:=⟨Tryz.f92.name,by decide,Tryz.func92.trans (congrArg some (by kernel_rfl))⟩
 f47:=Tryz.func85.trans (congrArg some (by kernel_rfl))
 f48:=Tryz.func86.trans (congrArg some (by kernel_rfl))
 f49:=⟨Tryz.f93.name,by decide,Tryz.func93.trans (congrArg some (by kernel_rfl))⟩
 f50:=⟨Tryz.f94.name,by decide,Tryz.func94.trans (congrArg some (by kernel_rfl))⟩
 f57:=⟨Tryz.f100.name,by decide,Tryz.func100.trans (congrArg some (by kernel_rfl))⟩
 t0:=Tryz.underlying0
 a0:=Tryz.isAgg0
 z0:=Tryz.sizeOf0
 v0:=Tryz.zeroValue0
 t3:=Tryz.underlying3
 a3:=Tryz.isAgg3
 z3:=Tryz.sizeOf3
 v3:=Tryz.zeroValue3
 t4:=Tryz.underlying4
 a4:=Tryz.isAgg4
 z4:=Tryz.sizeOf4
 v4:=Tryz.zeroValue4
 t5:=Tryz.underlying5
 a5:=Tryz.isAgg5
 z5:=Tryz.sizeOf5
 v5:=Tryz.zeroValue5
 t9:=Tryz.underlying9
 a9:=Tryz.isAgg9
 z9:=Tryz.sizeOf9
 v9:=Tryz.zeroValue9
 t22:=Tryz.underlying43
 a22:=Tryz.isAgg43
 z22:=Tryz.sizeOf43
 v22:=Tryz.zeroValue43
 t25:=Tryz.underlying89
 a25:=Tryz.isAgg89
 z25:=Tryz.sizeOf89
 v25:=Tryz.zeroValue89
 t39:=Tryz.underlying108
 a39:=Tryz.isAgg108
 z39:=Tryz.sizeOf108
 v39:=Tryz.zeroValue108
 t45:=Tryz.underlying125
 a45:=Tryz.isAgg125
 z45:=Tryz.sizeOf125
 v45:=Tryz.zeroValue125
 t46:=Tryz.underlying126
 a46:=Tryz.isAgg126
 z46:=Tryz.sizeOf126
 v46:=Tryz.zeroValue126
 t50:=Tryz.underlying81
 a50:=Tryz.isAgg81
 z50:=Tryz.sizeOf81
 v50:=Tryz.zeroValue81
 t53:=Tryz.underlying133
 a53:=Tryz.isAgg133
 z53:=Tryz.sizeOf133
 v53:=Tryz.zeroValue133
 t55:=Tryz.underlying22
 a55:=Tryz.isAgg22
 z55:=Tryz.sizeOf22
 v55:=Tryz.zeroValue22
 t66:=Tryz.underlying141
 a66:=Tryz.isAgg141
 z66:=Tryz.sizeOf141
 v66:=Tryz.zeroValue141
 t70:=Tryz.underlying145
 a70:=Tryz.isAgg145
 z70:=Tryz.sizeOf145
 v70:=Tryz.zeroValue145
 t76:=Tryz.underlying152
 a76:=Tryz.isAgg152
 z76:=Tryz.sizeOf152
 v76:=Tryz.zeroValue152
 t77:=Tryz.underlying153
 a77:=Tryz.isAgg153
 z77:=Tryz.sizeOf153
 v77:=Tryz.zeroValue153}
end Go.Proofs
