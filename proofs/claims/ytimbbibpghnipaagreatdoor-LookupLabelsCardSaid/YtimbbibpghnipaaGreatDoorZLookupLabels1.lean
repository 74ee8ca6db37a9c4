/- Part 1 of the texts of this claim: what its theorem leans on. -/
import Derived.WalkKit
import Derived.Deep.Quiet
import Derived.StillTail
import Derived.ProofKit
import Derived.OpenShut
import Derived.Carry
import Derived.Deep.Slices
import Derived.Scope
import Derived.Laws.StructEq
import Derived.ChangeKeysEq
import Derived.WalkLawsBesides
import Derived.Maps.OwnOps
import Derived.Maps.OwnSet
import Derived.Lib.AppendStr
import Derived.Lib.UnsafeStr
import Derived.Lib.Builder
import Derived.Laws.Externs
import Derived.LaidEqlPtr
import Derived.Lib.LaidTab
import Derived.Lib.ItoaNum
import Derived.Sort.OwnSortedInts
import Derived.Deep.Draws
import Derived.WalkSmall
import Derived.ChangeMaps5
import Derived.Test.YtimbbibpghnipaaGreatDoorProg
import Derived.KernelRfl
import Derived.Shelf.Small.Wraps
import Derived.Shelf.Strconv.Itoa0
import Derived.Shelf.Strconv.Itoa1
import Derived.Shelf.LaysM
import Derived.Shelf.Strconv.Itoa2
import Derived.Shelf.Strconv.Itoa3
import Derived.Shelf.Strconv.AppendUint10
import Derived.Shelf.Strconv.AppendInt10
import Derived.Shelf.Strconv.AppendIntPublic10
import Derived.DeepKeys4
set_option linter.all false
open Option renaming some→Ac,none→C7
open Bool renaming false→Aj,true→Bp
open Go renaming Value→BZ,Operand→DQ,TypeId→Gq,Program→GN,World→IU,execOp→Kt,Oper→K7,IntKind→Lo
open Decidable renaming decide→Dl
open Nat renaming beq→Hh,eq_of_beq_eq_true→aU,blt→aX,ble→iT
open List renaming replicate→T8,range→aT,drop_of_length_le→q_,drop_drop→xe,map_congr_left→Alx
open Go.Op renaming operands→af,equalIn→ns,equal→qn,stringOp→wV,maxDepth→Alu
open Go.Region renaming wanted→fp,binds→qf,ready→Aly
open Go.Result renaming andThen_ok→iP,andThen→je
open Go.Sem renaming run_bind→mZ,run_pure→vS
open Go.Instr renaming fill→ny,sureAddr→nz,sliceAt→rK,loadAt→zH
open Go renaming sizeOf→q6
open Go.Deferred renaming ofValue→q8
open Go.Addr renaming add_lit→rB,add→xt
open Array renaming replicate→Alw
namespace Go
abbrev AI:=@aU
abbrev AN:=@List.getElem_mem
abbrev AS:=@List.mem_append
abbrev AT:=@Bool.and_eq_true
abbrev By:=@List.mem_map
abbrev GB:=@List.getElem?_eq_getElem
abbrev IN:=@List.take_succ_eq_append_getElem
abbrev IS:=@Classical.byContradiction
abbrev IT:=@List.getElem?_eq_some_iff
abbrev No:=@List.all_eq_true
abbrev OF:=@List.length_eq_zero_iff
abbrev Pd:=@Option.map_eq_some_iff
abbrev Pe:=@List.getElem?_append_left
abbrev Aaa:=@List.getD_eq_getElem?_getD
abbrev Aab:=@List.getElem?_append_right
abbrev Aac:=@List.length_append
abbrev Aad:=@List.mem_flatMap
abbrev Aae:=@Nat.le_refl
abbrev Aaf:=@List.mem_singleton
abbrev Aag:=@List.mem_cons_of_mem
abbrev Aai:=@List.mem_of_getElem?
abbrev Aaj:=@List.append_assoc
abbrev Aak:=@List.map_append
abbrev Aal:=@List.length_map
abbrev Aam:=@List.map_map
abbrev Aan:=@Nat.lt_or_ge
abbrev Aao:=@Nat.le_trans
abbrev Aaq:=@List.drop_eq_getElem_cons
abbrev Aar:=@List.take_length
abbrev Aas:=@List.map_cons
abbrev Aat:=@List.getElem_of_mem
abbrev Aau:=@List.mem_cons_self
abbrev Aav:=@List.mem_cons
abbrev Aaw:=@List.pairwise_iff_getElem
abbrev Aax:=@Nat.le_of_ble_eq_true
abbrev Aay:=@q_
abbrev Aaz:=@List.nodup_cons
abbrev Aba:=@List.length_take
abbrev Abb:=@List.mem_filter
abbrev Abc:=@List.pairwise_append
abbrev Abd:=@List.eq_nil_of_length_eq_zero
abbrev Abe:=@Int.toNat_of_nonneg
abbrev Abf:=@Nat.ne_of_beq_eq_false
abbrev Abg:=@List.mem_range
abbrev Abh:=@Nat.zero_le
abbrev Abi:=@Nat.mul_le_mul_right
abbrev Abj:=@List.pairwise_cons
abbrev Abk:=@Option.isSome_iff_exists
abbrev Abl:=@Nat.zero_add
abbrev Abm:=@List.take_of_length_le
abbrev Abn:=@List.length_cons
abbrev Abo:=@Int.le_refl
abbrev Abp:=@Option.some.inj
abbrev Abq:=@List.length_set
abbrev Abr:=@Nat.lt_of_lt_of_le
abbrev Abs:=@Alx
abbrev Abt:=@List.mem_append_left
abbrev Abv:=@Nat.mul_le_mul
abbrev Aby:=@Nat.lt_of_not_le
abbrev Abz:=@List.getElem?_map
abbrev Aca:=@List.any_eq_true
abbrev Acb:=@List.mem_append_right
abbrev Acd:=@List.nil_append
abbrev Ace:=@Int.toNat_natCast
abbrev Acf:=@List.take_append_drop
abbrev Acg:=@Nat.add_sub_cancel_left
abbrev Ach:=@List.take_append_of_le_length
abbrev Aci:=@List.pairwise_singleton
abbrev Acj:=@List.mem_of_find?_eq_some
abbrev Ack:=@Option.getD_some
abbrev Acl:=@List.mem_of_mem_take
abbrev Acm:=@List.take_append_getElem
abbrev Acn:=@List.length_singleton
abbrev Aco:=@List.getElem?_eq_none
abbrev Acp:=@List.flatMap_append
abbrev Acq:=@List.getElem?_cons_succ
abbrev Acr:=@List.drop_append
abbrev Acs:=@List.filter_sublist
abbrev Acu:=@Prod.ext
abbrev Acv:=@List.nodup_append
abbrev Acw:=@Array.getElem?_eq_some_iff
abbrev Acx:=@Nat.lt_trichotomy
abbrev Acy:=@List.set_append_right
abbrev Acz:=@Nat.mul_one
abbrev Ada:=@Nat.mul_comm
abbrev Adb:=@List.length_eq_one_iff
abbrev Adc:=@List.foldl_append
abbrev Ade:=@xe
abbrev Adf:=@List.filterMap_cons
abbrev Adg:=@Option.map_some
abbrev Adh:=@Nat.min_eq_left
abbrev Adi:=@List.append_nil
abbrev Adj:=@Bool.or_eq_true
abbrev Adk:=@List.find?_eq_some_iff_getElem
abbrev Adl:=@List.find?_eq_none
abbrev Adm:=@List.ext_getElem
abbrev Ado:=@Nat.add_assoc
abbrev Adp:=@Nat.add_mul
abbrev Adr:=@List.pairwise_map
abbrev Ads:=@List.head_eq_of_cons_eq
abbrev Adt:=@List.getElem?_set
abbrev Adu:=@List.length_nil
abbrev Adv:=@List.idxOf_lt_length_of_mem
abbrev Adw:=@List.take_append
abbrev Adx:=@Bool.false_eq_true
abbrev Ady:=@List.set_eq_take_append_cons_drop
abbrev Adz:=@Option.some.injEq
abbrev Aea:=@Nat.succ_mul
abbrev Aeb:=@Nat.lt_succ_of_lt
abbrev Aec:=@Bool.not_eq_true'
abbrev Aed:=@List.length_pos_iff
abbrev Aee:=@List.take_zero
abbrev Aef:=@List.drop_length
abbrev Aeg:=@Int.mul_le_mul_of_nonneg_right
abbrev Aeh:=@Nat.zero_mul
abbrev Aei:=@List.map_nil
abbrev Aej:=@List.getElem?_eraseIdx
abbrev Aek:=@List.flatMap_singleton
abbrev Ael:=@Int.lt_or_le
abbrev Aem:=@List.range_succ
abbrev Aen:=@Bool.eq_iff_iff
abbrev Aeo:=@Nat.mul_assoc
abbrev Aep:=@List.eq_nil_or_concat
abbrev Aeq:=@Array.getD_eq_getD_getElem?
abbrev Aer:=@List.cons_append
abbrev Aes:=@List.mem_take_iff_getElem
abbrev Aet:=@Prod.mk.injEq
abbrev Aeu:=@List.any_append
abbrev Aev:=@List.mem_filterMap
abbrev Aew:=@List.getElem_idxOf
abbrev Aex:=@List.getElem?_take
abbrev Aey:=@Nat.le_mul_of_pos_right
abbrev Afb:=@List.reverse_cons
abbrev Afc:=@List.nodup_nil
abbrev Afd:=@List.idxOf_append
abbrev Afe:=@List.exists_of_findSome?_eq_some
abbrev Aff:=@List.drop_zero
abbrev Afg:=@List.drop_eq_nil_of_le
abbrev Afj:=@List.length_replicate
abbrev Afk:=@Nat.lt_succ_self
abbrev Afl:=@List.filter_cons
abbrev Afm:=@List.map_id
abbrev Afn:=@List.drop_append_of_le_length
abbrev Afo:=@Array.size_replicate
abbrev Afp:=@List.foldl_cons
abbrev Afq:=@List.find?_cons
abbrev Afs:=@UInt8.toNat_ofNat'
abbrev Aft:=@Nat.lt_of_le_of_lt
abbrev Afu:=@Nat.eq_zero_or_pos
abbrev Afv:=@List.set_cons_succ
abbrev Afw:=@List.getElem?_drop
abbrev Afx:=@List.filter_append
abbrev Afz:=@List.getElem?_eq_none_iff
abbrev Aga:=@List.flatMap_cons
abbrev Agb:=@List.filter_congr
abbrev Agc:=@List.ext_getElem?
abbrev Age:=@List.Pairwise.imp_of_mem
abbrev Agf:=@Option.bind_eq_some_iff
abbrev Agg:=@Nat.mod_eq_of_lt
abbrev Agm:=@Nat.le_of_lt
abbrev Agn:=@Nat.beq_refl
abbrev Ago:=@Nat.add_zero
abbrev Agp:=@List.length_pos_of_mem
abbrev Agq:=@Int.not_lt
abbrev Agr:=@Nat.div_add_mod
abbrev Agu:=@List.findSome?_append
abbrev Agv:=@Bool.and_eq_false_iff
abbrev Agw:=@Nat.pow_le_pow_right
abbrev Agx:=@Nat.le_succ
abbrev Agy:=@List.take_take
abbrev Agz:=@List.range_eq_range'
abbrev Aha:=@List.mem_erase_of_ne
abbrev Ahb:=@List.drop_take
abbrev Ahg:=@List.flatten_append
abbrev Ahh:=@Array.length_toList
abbrev Ahi:=@Bool.true_and
abbrev Ahj:=@Bool.not_true
abbrev Ahy:=@List.set_cons_zero
abbrev Air:=@Nat.sub_self
abbrev Ais:=@List.length_range
abbrev Ait:=@Array.all_eq_true_iff_forall_mem
abbrev Aiu:=@And.left
abbrev Ajh:=@Array.getElem?_setIfInBounds_ne
abbrev Ajl:=@Nat.le_of_not_lt
abbrev Ajm:=@Nat.le_max_right
abbrev Ajn:=@List.length_drop
abbrev Ala:=@Option.map_none
abbrev Alb:=@Nat.le_max_left
abbrev Alc:=@Nat.le_antisymm
abbrev Ald:=@List.filter_map
abbrev Ale:=@List.cons.injEq
abbrev Alf:=@List.append_inj
abbrev Alg:=@Option.isSome_eq_false_iff
abbrev Alh:=@List.findSome?_eq_none_iff
abbrev Ali:=@List.drop_left
abbrev Alj:=@Option.isNone_iff_eq_none
abbrev Alk:=@Bool.or_false
abbrev All:=@Bool.false_or
abbrev Alm:=@List.getLast?_singleton
abbrev Aln:=@List.getElem?_cons_zero
abbrev Alo:=@List.filter_cons_of_pos
abbrev Alp:=@List.filter_cons_of_neg
abbrev Alq:=@BitVec.eq_of_getLsbD_eq
theorem rf{α:Sort _}{a:α}:a=a:=rfl
end Go
namespace Go.GK
section
variable{a:Act}{n:Nat}{L:List (Nat×BZ)}
def lk:List (Nat×BZ)->Nat->Option BZ
 | [],_=>C7
 |(k,v)::l,t=>match Hh k t with
  |true=>Ac v
  |false=>lk l t
structure Fr(a:Act)(n:Nat)(L:List (Nat×BZ)):Prop where
 defers:a.defers=[]
 size:a.tmps.size=n
 get:∀t v,lk L t=Ac v->a.tmps.getD t undef=v
theorem Fr.put(h:Fr a n L){d:Nat}(i:aX d n=Bp)(v:BZ):Fr (a.put (Ac d) v) n ((d,v)::L):=by
 have f:d<n:=by simpa using i
 refine⟨h.defers,by simp[Act.put,h.size],λt u b=>?_⟩;simp only[lk]at b;simp only[Act.put];cases c:Hh d t with
 |true=>
  have e:d=t:=AI c;subst e;rw[c]at b;have g:v=u:=by simpa using b
  subst g;simp[h.size,f]
 |false=>
  rw[c]at b;have ne:d≠t:=Abf c;have:=h.get t u b;simp only[Aeq]at this⊢;rw[Ajh ne];exact this
def ev(L:List (Nat×BZ)):DQ->Option BZ
 | .tmp t=>lk L t
 | .const v=>Ac v
 | .global g=>Ac (.pointer (Ac ⟨g,0,C7⟩))
 | .func f=>Ac (.func (.func f) #[] #[])
theorem Fr.eval(h:Fr a n L){x:DQ}{v:BZ}(b:ev L x=Ac v):a.eval x=v:=by
 cases x with
 |tmp t=>exact h.get t v b
 |const u=>simpa [ev,Act.eval]using b
 |global g=>simpa [ev,Act.eval]using b
 |func f=>simpa [ev,Act.eval]using b
def evl(L:List (Nat×BZ)):List DQ->Option (List BZ)
 | []=>Ac []
 |x::xs=>match ev L x,evl L xs with
  |some v,Ac vs=>Ac (v::vs)
  |_,_=>C7
structure Hp where
 at_:Nat->Option Obj
 os:Os
 output:Array (Nat×ByteArray)
 tape:Nat->Question->Nat
end
def Hp.le(H a:Hp):Prop:=(∀b o,H.at_ b=Ac o->a.at_ b=Ac o)/\a.os=H.os/\a.output=H.output/\a.tape=H.tape
theorem Hp.le.refl(H:Hp):H.le H:=⟨λ_ _ h=>h,rfl,rfl,rfl⟩
theorem Hp.le.trans{A B C:Hp}(h:A.le B)(k:B.le C):A.le C:=⟨λb o x=>k.1 b o (h.1 b o x),k.2.1.trans h.2.1,k.2.2.1.trans h.2.2.1,k.2.2.2.trans h.2.2.2⟩
inductive Aw where
 |Ai (b:Nat) (o:Obj)
 |row (v:BZ) (e:Gq) (size n:Nat) (xs:List BZ)
 |emp
 |own (b:Nat) (C:IU->Prop) (lt:∀w,C w->b<w.heap.size) (kept:∀w w' row,C w->w.grownBy w' row->row≠Ac b->C w')
 |Ck (v:BZ) (e:Gq) (n:Nat) (xs:List BZ) (e':Gq) (sz:Nat) (rows:List (Option (Nat×List BZ)))
def Aw.block:Aw->Option Nat
 | .Ai b _=>Ac b
 | .row v .. =>v.ownBlock
 | .emp=>C7
 | .own b .. =>Ac b
 | .Ck .. =>C7
def Aw.has:Aw->Nat->Prop
 | .Ai c _,b=>c=b
 | .row v ..,b=>v.ownBlock=Ac b
 | .emp,_=>False
 | .own c ..,b=>c=b
 | .Ck v _ _ xs _ _ a,b=>v.ownBlock=Ac b\/∃(i:Nat) (u:BZ) (m:Nat) (ys:List BZ),xs[i]?=Ac u/\a[i]?=Ac (Ac (m,ys))/\u.ownBlock=Ac b
section
variable{r:Aw}{b:Nat}
theorem Aka(h:r.block=Ac b):r.has b:=by cases r<;>simp_all [Aw.block,Aw.has]
theorem Afr{c:Nat}(h:r.block=Ac b)(k:r.has c):c=b:=by cases r<;>simp_all [Aw.block,Aw.has]
structure IE(w:IU)(v:BZ)(e:Gq)(n:Nat)(xs:List BZ)(e':Gq)(sz:Nat)(rows:List (Option (Nat×List BZ))):Prop where
 top:w.ownsRow 0 e 1 v n xs
 row:∀(i:Nat) (u:BZ) (m:Nat) (ys:List BZ),xs[i]?=Ac u->rows[i]?=Ac (Ac (m,ys))->w.ownsRow 0 e' sz u m ys
 one:∀(i j:Nat) (u u':BZ) (m m':Nat) (ys ys':List BZ) (b:Nat),xs[i]?=Ac u->rows[i]?=Ac (Ac (m,ys))->xs[j]?=Ac u'->rows[j]?=Ac (Ac (m',ys'))->u.ownBlock=Ac b->u'.ownBlock=Ac b->i=j
 out:∀(i:Nat) (u:BZ) (m:Nat) (ys:List BZ) (b:Nat),xs[i]?=Ac u->rows[i]?=Ac (Ac (m,ys))->u.ownBlock=Ac b->v.ownBlock≠Ac b
def Aw.ok(w:IU):Aw->Prop
 | .Ai b o=>w.heap[b]?=Ac o
 | .row v e size n xs=>w.ownsRow 0 e size v n xs
 | .emp=>True
 | .own _ C _ _=>C w
 | .Ck v e n xs d sz a=>IE w v e n xs d sz a
end
section
variable{w:IU}{H:Hp}{O:List Aw}{r:Aw}{w':IU}{i b:Nat}{row:Option Nat}{r':Aw}
structure SH(w:IU)(H:Hp)(O:List Aw):Prop where
 MU:∀b o,H.at_ b=Ac o->w.heap[b]?=Ac o
 os:w.os=H.os
 output:w.output=H.output
 tape:w.tape=H.tape
 ok:∀(i:Nat) (r:Aw),O[i]?=Ac r->r.ok w
 Iy:∀(i:Nat) (r:Aw) (b:Nat),O[i]?=Ac r->r.has b->H.at_ b=C7
 nd:∀(i j:Nat) (r r':Aw) (b:Nat),O[i]?=Ac r->O[j]?=Ac r'->r.has b->r'.has b->i=j
theorem Aw.ok.lt(h:r.ok w)(a:r.has b):b<w.heap.size:=by
 cases r with
 |Ai c o=>
  have a:c=b:=a;subst a;exact(Acw.1 h).1
 |row v e size n q=>exact(IU.ownsRow.lt h b a).2
 |emp=>exact a.elim
 |own c C lt d=>
  have a:c=b:=a;subst a;exact lt w h
 |Ck v e n q t x f=>
  rcases a with a|⟨i,u,m,s,l,p,a⟩;· exact(IU.ownsRow.lt (IE.top h) b a).2
  ·exact(IU.ownsRow.lt (IE.row h i u m s l p) b a).2
theorem Aw.ok.grown(h:r.ok w)(c:w.grownBy w' row)(a:∀b,r.has b->row≠Ac b):r.ok w':=by
 cases r with
 |Ai b o=>
  have g:=Aw.ok.lt h (b:=b) rfl;show w'.heap[b]?=Ac o;rw[c.block b g (λe=>a b rfl e.symm)];exact h
 |row v e size n x=>
  refine IU.ownsRow.kept h c ?_;cases d:v.ownBlock with
  |none=>exact .inl rfl
  |some b=>exact .inr (λe=>a b d e.symm)
 |emp=>trivial
 |own b C lt f=>exact f w w' row h c (a b rfl)
 |Ck v e n x y z l=>
  refine⟨IU.ownsRow.kept (IE.top h) c ?_,λi u m p j k=>IU.ownsRow.kept (IE.row h i u m p j k) c ?_,IE.one h,IE.out h⟩;· cases d:v.ownBlock with
   |none=>exact .inl rfl
   |some b=>exact .inr (λe=>a b (.inl d) e.symm)
  ·cases d:u.ownBlock with
   |none=>exact .inl rfl
   |some b=>exact .inr (λe=>a b (.inr ⟨i,u,m,p,j,k,d⟩) e.symm)
theorem SH.lt(h:SH w H O){o:Obj}(a:H.at_ b=Ac o):b<w.heap.size:=(Acw.1 (h.MU b o a)).1
theorem SH.grown(h:SH w H O)(hg:w.grownBy w' C7):SH w' H O where
 MU b o hb:=by rw[hg.block b (h.lt hb) (by simp)];exact h.MU b o hb
 os:=hg.os.trans h.os
 output:=hg.output.trans h.output
 tape:=hg.tape.trans h.tape
 ok i r hr:=(h.ok i r hr).grown hg (by simp)
 Iy:=h.Iy
 nd:=h.nd
theorem SH.drew(h:SH w H O):SH {w with drawn:=w.drawn+1} H O where
 MU:=h.MU
 os:=h.os
 output:=h.output
 tape:=h.tape
 ok i r hr:=by
  have:=h.ok i r hr;cases r with
  |own b C lt kept=>exact kept w _ C7 this ⟨rfl,rfl,rfl,Aae _,λ_ _ _=>rfl⟩ (by simp)
  |Ck v e n xs e' sz rows=>
   have t:IE w v e n xs e' sz rows:=this;exact⟨t.top,t.row,t.one,t.out⟩
  |_=>exact this
 Iy:=h.Iy
 nd:=h.nd
theorem BH{α:Type}{x y:α}{l:List α}(h:(x::l)[i]?=Ac y):(i=0/\y=x)\/∃j,i=j+1/\l[j]?=Ac y:=by
 cases i with
 |zero=>left;simp at h;exact⟨rfl,h.symm⟩
 |succ j=>right;exact⟨j,rfl,by simpa using h⟩
theorem SH.push(h:SH w H O)(hg:w.grownBy w' C7)(hr:r.ok w')(hnew:∀b,r.has b->w.heap.size<=b):SH w' H (r::O)where
 MU b o hb:=by rw[hg.block b (h.lt hb) (by simp)];exact h.MU b o hb
 os:=hg.os.trans h.os
 output:=hg.output.trans h.output
 tape:=hg.tape.trans h.tape
 ok i s hs:=by
  rcases BH hs with⟨rfl,rfl⟩|⟨j,rfl,hj⟩;· exact hr
  ·exact(h.ok j s hj).grown hg (by simp)
 Iy i s b hs hb:=by
  rcases BH hs with⟨rfl,rfl⟩|⟨j,rfl,hj⟩;· cases he:H.at_ b with
   |none=>rfl
   |some o=>have:=h.lt he;have:=hnew b hb;omega
  ·exact h.Iy j s b hj hb
 nd i j s s' b hi hj hb hb':=by
  rcases BH hi with⟨rfl,rfl⟩|⟨i',rfl,hi'⟩
  ·rcases BH hj with⟨rfl,rfl⟩|⟨j',rfl,hj'⟩;· rfl
   ·have:=(h.ok j' s' hj').lt hb';have:=hnew b hb;omega
  ·rcases BH hj with⟨rfl,rfl⟩|⟨j',rfl,hj'⟩;· have:=(h.ok i' s hi').lt hb;have:=hnew b hb';omega
   ·rw[h.nd i' j' s s' b hi' hj' hb hb']
theorem SH.alloc(h:SH w H O)(o:Obj):SH (w.alloc o) H (.Ai w.heap.size o::O):=
 h.push (IU.grownBy_alloc w o C7) (heap_alloc_new w o) (λb c=>by simp only[Aw.has]at c;omega)
theorem SH.vH(h:SH w H O)(hi:O[i]?=Ac r)(m:∀b,row=Ac b->r.has b)(q:w.grownBy w' row)
  (D:r'.ok w') (p:∀b,r'.has b->r.has b\/w.heap.size<=b):SH w' H (O.set i r'):=by
 have t:i<O.length:=(IT.1 hi).1;have key:∀j s,(O.set i r')[j]?=Ac s->(j=i/\s=r')\/(j≠i/\O[j]?=Ac s):=λj s f=>by
  rw[Adt]at f;by_cases e:i=j;· subst e;simp[t]at f;exact .inl ⟨rfl,f.symm⟩
  ·simp[e]at f;exact .inr ⟨λx=>e x.symm,f⟩
 have n:∀b,r'.has b->H.at_ b=C7:=λb g=>by
  rcases p b g with g|g;· exact h.Iy i r b hi g
  ·cases C:H.at_ b with
   |none=>rfl
   |some o=>have:=h.lt C;omega
 refine⟨λb o l=>?_,q.os.trans h.os,q.output.trans h.output,q.tape.trans h.tape,λj s f=>?_,λj s b f c=>?_,λj k s u b f a c d=>?_⟩;· rw[q.block b (h.lt l) (λe=>by rw[h.Iy i r b hi (m b e.symm)]at l;cases l)];exact h.MU b o l
 ·rcases key j s f with⟨rfl,rfl⟩|⟨y,a⟩;· exact D
  ·exact(h.ok j s a).grown q (λb p e=>y (h.nd j i s r b a hi p (m b e)))
 ·rcases key j s f with⟨rfl,rfl⟩|⟨y,a⟩;· exact n b c
  ·exact h.Iy j s b a c
 ·rcases key j s f with⟨rfl,rfl⟩|⟨y,A⟩
  ·rcases key k u a with⟨rfl,rfl⟩|⟨B,v⟩;· rfl
   ·exfalso;rcases p b c with e|e;· exact B (h.nd k j u r b v hi d e)
    ·have:=(h.ok k u v).lt d;omega
  ·rcases key k u a with⟨rfl,rfl⟩|⟨B,v⟩
   ·exfalso;rcases p b d with e|e;· exact y (h.nd j k s r b A hi c e)
    ·have:=(h.ok j s A).lt c;omega
   ·exact h.nd j k s u b A v c d
theorem SH.set(h:SH w H O)(hi:O[i]?=Ac r)(c:w.grownBy w' r.block)
 (d:r'.ok w') (a:∀b,r'.has b->r.has b\/w.heap.size<=b):SH w' H (O.set i r'):=h.vH hi (λ_ h=>Aka h) c d a
def Hp.put(H:Hp)(b:Nat)(o:Obj):Hp:= {H with at_:=λc=>if c=b then Ac o else H.at_ c}
end
section
variable{w:IU}{H:Hp}{O:List Aw}
theorem SH.drop(h:SH w H O)(i:Nat):SH w H (O.eraseIdx i)where
 MU:=h.MU
 os:=h.os
 output:=h.output
 tape:=h.tape
 ok j r hr:=by
  rw[Aej]at hr;split at hr;· exact h.ok _ _ hr
  ·exact h.ok _ _ hr
 Iy j r b hr hb:=by
  rw[Aej]at hr;split at hr;· exact h.Iy _ _ b hr hb
  ·exact h.Iy _ _ b hr hb
 nd j k r r' b hr hr' hb hb':=by
  rw[Aej]at hr hr';split at hr<;>split at hr';· exact h.nd _ _ _ _ b hr hr' hb hb'
  ·have:=h.nd _ _ _ _ b hr hr' hb hb';omega
  ·have:=h.nd _ _ _ _ b hr hr' hb hb';omega
  ·have:=h.nd _ _ _ _ b hr hr' hb hb';omega
theorem SH.PK(h:SH w H O){i:Nat}{r:Aw}(hi:O[i]?=Ac r){b:Nat}(g:r.has b){o:Obj}(m:w.heap[b]?=Ac o):
  H.le (H.put b o)/\SH w (H.put b o) (O.eraseIdx i):=by
 have d:=h.Iy i r b hi g;have k:=h.drop i;refine⟨⟨λc l a=>?_,rfl,rfl,rfl⟩,⟨λc l a=>?_,h.os,h.output,h.tape,k.ok,λj s c f a=>?_,k.nd⟩⟩
 ·simp only[Hp.put];by_cases e:c=b;· subst e;rw[d]at a;cases a
  ·simp[e,a]
 ·simp only[Hp.put]at a;by_cases e:c=b;· subst e;simp at a;subst a;exact m
  ·simp[e]at a;exact h.MU c l a
 ·simp only[Hp.put];have:c≠b:=λe=>by
   subst e;rw[Aej]at f;split at f;· have:=h.nd _ _ _ _ c f hi a g;omega
   ·have:=h.nd _ _ _ _ c f hi a g;omega
  simp[this,k.Iy j s c f a]
theorem SH.pick{a:List Aw}(h:SH w H O)(f:Nat->Nat)(hf:∀i r,a[i]?=Ac r->O[f i]?=Ac r)
  (hinj:∀i j,i<a.length->j<a.length->f i=f j->i=j):SH w H a where
 MU:=h.MU
 os:=h.os
 output:=h.output
 tape:=h.tape
 ok i r hr:=h.ok _ _ (hf i r hr)
 Iy i r b hr hb:=h.Iy _ _ b (hf i r hr) hb
 nd i j r r' b hr hr' hb hb':=hinj i j (IT.1 hr).1 (IT.1 hr').1 (h.nd _ _ _ _ b (hf i r hr) (hf j r' hr') hb hb')
def At(Q:Exit->Act->IU->Prop)(e:Exit)(n:Nat)(L:List (Nat×BZ))(H:Hp)(O:List Aw):Prop:= ∀a w,Fr a n L->SH w H O->Q e a w
def Wp(P:GN)(c:Code)(Q:Exit->Act->IU->Prop)(n:Nat)(L:List (Nat×BZ))(H:Hp)(O:List Aw):Prop:= ∀a w,Fr a n L->SH w H O->c.wp P Q a w
def Fe(P:GN)(c:Array K7)(Q:Exit->Act->IU->Prop)(b:List K7)(n:Nat)(L:List (Nat×BZ))(H:Hp)(O:List Aw):Prop:= ∀a w,Fr a n L->SH w H O->wpList P c Q b a w
end
section
variable {P : GN} {Q Q2 : Exit -> Act -> IU -> Prop} {n : Nat} {L L' : List (Nat × BZ)} {H : Hp} {O : List Aw}
section
variable{y x:Code}{c:DQ}{a:Act}{v:BZ}{b:List K7}{d:Array K7}{T:Gq}
theorem Ahv(h:Wp P y Q n L H O):At (Exit.then (y.wp P Q) Q2) .normal n L H O:=h
theorem Wp.seq(h:Wp P x (Exit.then (y.wp P Q) Q) n L H O):Wp P (.seq x y) Q n L H O:=λa w b c=>wp_seq (h a w b c)
theorem Wp.skip(h:At Q .normal n L H O):Wp P .skip Q n L H O:=λa w b c=>wp_skip (h a w b c)
theorem Ajo(e:ev L c=Ac (.bool Bp))(ht:Wp P x Q n L H O):Wp P (.cond c x y) Q n L H O:=
 λa w b d=>wp_cond_true (b.eval e) (ht a w b d)
theorem Aiv(e:ev L c=Ac (.bool Aj))(ht:Wp P y Q n L H O):Wp P (.cond c x y) Q n L H O:=
 λa w b d=>wp_cond_false (b.eval e) (ht a w b d)
theorem Wp.region{id:Nat}{l:List K7}(h:Fe P l.toArray Q l n L H O):Wp P (.region id l.toArray Aj) Q n L H O:=
 λa w b c=>wp_region_lit (h a w b c)
theorem Fe.nil{a:Array K7}(h:At Q .normal n L H O):Fe P a Q [] n L H O:=h
def Au(P:GN)(op:Op)(T:Gq)(E:DQ->Option BZ)(H:Hp)(O:List Aw)(v:BZ):Prop:= ∀(a:Act) (w:IU) (o:K7),o.op=op->o.type=T->(∀x u,E x=Ac u->a.eval x=u)->SH w H O->o.quietAt P a (λw'=>SH w' H O) w v
theorem Aez{o:K7}{w:IU}{C:IU->Prop}{next:Act->IU->Prop}
  (b:o.quietAt P a C w v) (c:C w) (h:∀w',C w'->next (a.put o.dst v) w'):o.wp P a w next Q:=by
 unfold K7.quietAt K7.quietUpon at b;unfold K7.wp;split at b<;>rename_i heq<;>(try rw[heq]);· obtain⟨rfl,rfl⟩:=b;exact h _ c
 ·obtain⟨rfl,rfl⟩:=b;exact h _ c
 ·obtain⟨rfl,b⟩:=b;refine b.mono ?_;rintro e w' ⟨rfl,d⟩;exact h _ d
 ·exact b.elim
def BM(P:GN)(op:Op)(T:Gq)(E:DQ->Option BZ)(H:Hp)(O:List Aw)(R:BZ->Hp->List Aw->Prop):Prop:= ∀(a:Act) (w:IU) (o:K7) (next:Act->IU->Prop) (Q:Exit->Act->IU->Prop),o.op=op->o.type=T->(∀x u,E x=Ac u->a.eval x=u)->SH w H O->(∀v w' b c,H.le b->R v b c->SH w' b c->next (a.put o.dst v) w')->o.wp P a w next Q
theorem Fe.op{c:Array K7}{d:Tmp}{op:Op}{pos:String}{i:Array Edge}
  (h:Au P op T (ev L) H O v) (l:aX d n=Bp) (k:Fe P c Q b n ((d,v)::L) H O):
  Fe P c Q ({dst:=Ac d,op,type:=T,pos,after:=i,guard:=C7} ::b) n L H O:=λa w f g=>
 wpList_plain rfl λK j=>Aez (h a w _ rfl rfl (λ_ _ m=>f.eval m) g) g λo e=>j _ _ (k _ _ (f.put l v) e)
theorem Fe.opS0{op:Op}{pos:String}{j:Array Edge}{R:BZ->Hp->List Aw->Prop}
  (h:BM P op T (ev L) H O R) (k:∀v c e,H.le c->R v c e->Fe P d Q b n L c e):
  Fe P d Q ({dst:=C7,op,type:=T,pos,after:=j,guard:=C7} ::b) n L H O:=λa w i o=>
 wpList_plain rfl λK l=>h a w _ K Q rfl rfl (λ_ _ p=>i.eval p) o λv q c e f m g=>l _ _ (k v c e f m _ _ i g)
def BL(a:Array K7)(j:Nat):Option Tmp:=(a[j]?).bind (·.dst)
theorem Gp{j:Nat}{t:Tmp}{b:Bool}(e:BL d j=Ac t)(c:a.tmps.getD t undef= .bool b):yielded d a.tmps j=Ac b:=by
 unfold BL at e;unfold yielded;rw[e];have:a.tmps[t]?=Ac (.bool b):=by
  rw[Aeq]at c;cases h:a.tmps[t]? with
  |none=>rw[h]at c;simp[undef]at c
  |some u=>rw[h]at c;simp at c;rw[c]
 simp[this]
end
end
abbrev SP:=Hp->BZ->Prop
def names(a:Array K7)(o:K7):List Tmp:=o.dst.toList++o.looksAt a
def meets(a:Array K7)(x y:K7):Bool:=
 (match x.dst with|some d=>(names a y).any (Hh d)|none=>Aj)||(match y.dst with|some d=>(names a x).any (Hh d)|none=>Aj)
def GR:Nat->List K7->Bool
 |_,[]=>Bp
 |i,o::os=>(o.after.all λe=> !Region.binds .any e||aX e.on i)&&GR (i+1) os
def V'(o:K7)(i:Nat):Bool:=o.after.any λe=>qf .any e&&Hh e.on i
def nn(a:Array K7):Nat->K7->Nat->Bool
 |0,o,i=>V' o i
 |f+1,o,i=>V' o i||o.after.any λe=>qf .any e&&((a[e.on]?).map λx=>nn a f x i).getD Aj
def T5(a:Array K7)(k j:Nat)(o:K7):Nat->List K7->Bool
 |_,[]=>Bp
 |i,x::xs=>(iT j i||((!(meets a x o)&&aX j k)||nn a 8 o i))&&T5 a k j o (i+1) xs
def FN(l:List K7)(a:Array K7)(k:Nat):Nat->List K7->Bool
 |_,[]=>Bp
 |j,o::os=>T5 a k j o 0 l&&FN l a k (j+1) os
theorem Nn:∀ {l:List K7} {i:Nat},GR i l=Bp->∀(j:Nat) (o:K7),l[j]?=Ac o->∀e∈o.after,qf .any e=Bp->e.on<i+j
 | [],_,_,j,o,h=>by simp at h
 |x::f,i,c,j,o,h=>by
  simp only[GR,AT]at c;cases j with
  |zero=>
   simp at h;subst h;intro e d a;have:=(Ait.1 c.1) e d;simp[a]at this;omega
  |succ j=>
   intro e d a;have:=Nn c.2 j o (by simpa using h) e d a;omega
def cur(l:List K7)(Φ:Nat->SP)(S:Nat->SP)(a:Nat->Bool)(t:Nat):Nat->SP
 |0=>Φ t
 |i+1=>if a i=Bp/\((l[i]?).bind (·.dst))=Ac t then S i else cur l Φ S a t i
section
variable {P : GN} {Q : Exit -> Act -> IU -> Prop}
section
variable{a:Array K7}{o:K7}{t:Tmp}
theorem EX(h:t∈o.looksAt a):(names a o).any (Hh t)=Bp:=by simp only[names,Aeu,Adj];exact .inr (Aca.2 ⟨t,h,by simp⟩)
theorem Kr(h:o.dst=Ac t):(names a o).any (Hh t)=Bp:=by simp[names,h]
def AD(p:Nat->Bool):Nat->Nat
 |0=>0
 |m+1=>AD p m+if p m then 0 else 1
theorem SY{p:Nat->Bool} :∀ {m:Nat},AD p m=0->∀i,i<m->p i=Bp
 |0,_,i,h=>by omega
 |m+1,a,i,h=>by
  simp only[AD]at a;by_cases e:i=m;· subst e;cases b:p i with
   |true=>rfl
   |false=>rw[b]at a;simp at a
  ·exact SY (p:=p) (m:=m) (by omega) i (by omega)
theorem SZ{p q:Nat->Bool} :∀ {m:Nat},(∀i,i<m->p i=q i)->AD p m=AD q m
 |0,_=>rfl
 |m+1,h=>by simp only[AD];rw[h m (by omega),SZ λi a=>h i (by omega)]
theorem Ws{p q:Nat->Bool}{i:Nat} :∀ {m:Nat},i<m->p i=Aj->q i=Bp->(∀j,j≠i->q j=p j)->AD p m=AD q m+1
 |0,h,_,_,_=>by omega
 |m+1,h,b,c,a=>by
  simp only[AD];by_cases e:i=m;· subst e;rw[b,c,SZ (p:=p) (q:=q) λj d=>(a j (by omega)).symm];simp
  ·rw[Ws (m:=m) (by omega) b c a,a m (λx=>e x.symm)];omega
end
end
section
variable{w:IU}{size:Nat}{H:Hp}{t:Gq}{P:GN}{O:List Aw}{u v:BZ}{n:Nat}{xs:List BZ}{i bytes:Nat}{z:BZ}{e:Gq}{d:TypeDesc}{b:Hp}{p:BZ}
inductive SV where
 |is (v:BZ)
 |sat (p:SP)
theorem AX(h:P.underlying t=Ac d):(underlying t).run P w= .ok d w:=run_underlying h w
structure TI(P:GN)(t:Gq)(size bytes:Nat)(z:BZ):Prop where
 ex:∃i,P.info? t=Ac i/\i.size=size/\i.bytes=bytes/\i.zero=Ac z
theorem TI.of(h:(P.info? t).map (λi=>(i.size,i.bytes,i.zero))=Ac (size,bytes,Ac z)):TI P t size bytes z:=by
 cases a:P.info? t with
 |none=>simp[a]at h
 |some i=>simp[a]at h;exact⟨i,a,h.1,h.2.1,h.2.2⟩
theorem TI.sizeOf(h:TI P t size bytes z):(q6 t).run P w= .ok size w:=by obtain⟨i,b,a,_⟩:=h.ex;simp[q6,typeInfo,b,a]
theorem TI.zeroValue(h:TI P t size bytes z):(Go.zeroValue t).run P w= .ok z w:=by obtain⟨i,b,_,_,a⟩:=h.ex;simp[Go.zeroValue,typeInfo,b,a]
def DL:TypeDesc->Bool
 | .struct _=>Bp
 | .array _ _=>Bp
 |_=>Aj
theorem Cg(h:P.underlying t=Ac d):(isAgg t).run P w= .ok (DL d) w:=by simp[isAgg,AX h];cases d<;>simp[DL]
def ptr(b off:Nat):BZ:= .pointer (Ac ⟨b,off,C7⟩)
def AL(v:BZ)(k:Nat):BZ:=match v with
 | .slice (Ac a) _ _=> .pointer (Ac (a.add k))
 |_=>undef
theorem C8(a:Addr)(m n:Nat):(a.add m).add n=a.add (m+n):=by
 unfold xt;by_cases b:m=0;· subst b;simp
 ·by_cases c:n=0;· subst c;simp
  ·simp[b,c,Ado]
def DV(H:Hp)(p:BZ)(u:BZ):Prop:= ∃a cur t b,p= .pointer (Ac a)/\a.spot=C7/\H.at_ a.block=Ac (.cells cur t b)/\cur[a.off]?=Ac u
def Tt(v:BZ)(n:Nat):Prop:=(v= .slice C7 0 0/\n=0)\/∃a cap,v= .slice (Ac a) n cap/\n<=cap
structure Sl(H:Hp)(v:BZ)(size n:Nat)(xs:List BZ):Prop where
 len:xs.length=n*size
 sl:Tt v n
 cells:∀j u,xs[j]?=Ac u->DV H (AL v j) u
theorem DV.mono(h:H.le b)(i:DV H p u):DV b p u:=by obtain⟨a,cur,t,c,d,e,f,g⟩:=i;exact⟨a,cur,t,c,d,e,h.1 _ _ f,g⟩
theorem Sl.mono(h:H.le b)(a:Sl H v size n xs):Sl b v size n xs:=
 ⟨a.len,a.sl,λj u c=>(a.cells j u c).mono h⟩
theorem Sl.nil(H:Hp)(size:Nat):Sl H (.slice C7 0 0) size 0 []:=⟨by simp, .inl ⟨rfl,rfl⟩,λj u h=>by simp at h⟩
theorem DV.cell(g:SH w H O)(f:DV H p u):∃a,p= .pointer (Ac a)/\w.cell? a=Ac u:=by obtain⟨a,cur,t,h,b,c,d,e⟩:=f;exact⟨a,b,by simp[IU.cell?,g.MU _ _ d,c,e]⟩
theorem SH.LW(c:SH w H O){B:Nat}{cs:Array BZ}{b:Nat×Nat}(hi:O[i]?=Ac (.Ai B (.cells cs t b))){off:Nat}(d:cs[off]?=Ac u):
  w.cell? ⟨B,off,C7⟩=Ac u:=by
 have:=c.ok i _ hi;simp only[Aw.ok]at this;simp[IU.cell?,this,d]
theorem SH.fQ(f:SH w H O)(hi:O[i]?=Ac (.row v e size n xs)){j:Nat}(c:xs[j]?=Ac u):
  ∃a,AL v j= .pointer (Ac a)/\a.spot=C7/\v.ownBlock=Ac a.block/\w.cell? a=Ac u/\w.frozen? a=Aj:=by
 have h:=f.ok i _ hi;simp only[Aw.ok]at h;rcases h.2 with⟨rfl,rfl⟩|⟨g,cap,cur,rfl,_,d,_,_,_,b⟩;· have:xs=[]:=Abd (by simpa using h.1);subst this;simp at c
 ·have:=h.cells (g:=g) rfl j u c;rw[rB]at this;refine⟨⟨g,0+j,C7⟩,by simp only[AL,rB],rfl,rfl,this,?_⟩;simp[IU.frozen?,d]
theorem SH.IL(b:SH w H O)(hi:O[i]?=Ac (.row v e size n xs)):Tt v n/\xs.length=n*size:=by
 have h:=b.ok i _ hi;simp only[Aw.ok]at h;refine⟨?_,h.1⟩;rcases h.2 with⟨rfl,rfl⟩|⟨g,cap,cur,rfl,_,_,a,_⟩;· exact .inl ⟨rfl,rfl⟩
 ·exact .inr ⟨_,_,rf,a⟩
theorem SH.freeze(f:SH w H O)(hi:O[i]?=Ac (.row v e size n xs)):
  ∃d,H.le d/\SH w d (O.eraseIdx i)/\Sl d v size n xs:=by
 have h:=f.ok i _ hi;simp only[Aw.ok]at h;rcases h.2 with⟨rfl,rfl⟩|⟨g,cap,cur,rfl,_,o,p,_,m,a⟩;· have:xs=[]:=Abd (by simpa using h.1);subst this;exact⟨H,Hp.le.refl H,f.drop i,Sl.nil H size⟩
 ·obtain⟨k,l⟩:=f.PK hi (b:=g) rfl o;refine⟨_,k,l,h.1, .inr ⟨_,_,rfl,p⟩,λj u c=>⟨⟨g,0+j,C7⟩,cur,e,(0,0),by simp only[AL,rB],rfl,by simp[Hp.put],?_⟩⟩;rw[<-a]at c;rw[Aex]at c;split at c;· simpa using c
  ·simp at c
end
section
variable {P : GN} {T : Gq} {E : DQ -> Option BZ} {H : Hp} {O : List Aw}
section
variable{v:BZ}{x c y:DQ}
theorem Au.Ao{op:Op}(h:∀(a:Act) (w:IU) (o:K7),o.op=op->o.type=T->(∀x u,E x=Ac u->a.eval x=u)->SH w H O->(Kt a.eval o).run P w= .ok (.value v) w):Au P op T E H O v:=by intro a w o d b c e;simp[K7.quietAt,h a w o d b c e,K7.quietUpon]
theorem Au.move(e:E x=Ac v):Au P (.move x) T E H O v:= .Ao λa w o d _ c _=>by simp[Kt,d,c x v e]
theorem Au.assign(e:E x=Ac v):Au P (.assign x) T E H O v:= .Ao λa w o d _ c _=>by simp[Kt,d,c x v e]
theorem Akj(e:E c=Ac (.bool Bp))(g:E x=Ac v):Au P (.pick c x y) T E H O v:= .Ao λa w o f _ d _=>by simp[Kt,f,d x v g,d c _ e,asBool]
theorem Aki(e:E c=Ac (.bool Aj))(g:E y=Ac v):Au P (.pick c x y) T E H O v:= .Ao λa w o f _ d _=>by simp[Kt,f,d y v g,d c _ e,asBool]
end
section ints
variable {k : Lo} {x y : DQ} {m n : Int} {Tx Ty : Gq}
section
variable{s d:Gq}{ds:TypeDesc}
theorem Aiq(e:E x=Ac (.int k m))(f:E y=Ac (.int k n)):Au P (.binOp .add Tx x y Ty) T E H O (.int k (k.wrap (m+n))):= .Ao λa w o d _ c _=>by simp[Kt,d,c x _ e,c y _ f,eqGuard,binOp,Op.intArith]
theorem Aih(e:E x=Ac (.int k m))(f:E y=Ac (.int k n)):Au P (.binOp .sub Tx x y Ty) T E H O (.int k (k.wrap (m-n))):= .Ao λa w o d _ c _=>by simp[Kt,d,c x _ e,c y _ f,eqGuard,binOp,Op.intArith]
theorem Aim(e:E x=Ac (.int k m))(f:E y=Ac (.int k n)):Au P (.binOp .mul Tx x y Ty) T E H O (.int k (k.wrap (m*n))):= .Ao λa w o d _ c _=>by simp[Kt,d,c x _ e,c y _ f,eqGuard,binOp,Op.intArith]
theorem DX(h:k.min<=n/\n<=k.max):k.wrap n=n:=by cases k<;>simp[Lo.min,Lo.max,Lo.signed,Lo.bits]at h<;>simp[Lo.wrap,Lo.signed,Lo.bits]<;>omega
theorem UD(h: -9223372036854775808<=n/\n<=9223372036854775807):Lo.i64.min<=n/\n<=Lo.i64.max:=by simpa [Lo.min,Lo.max,Lo.signed,Lo.bits]using h
theorem qR(h:0<=n/\n<=255):Lo.u8.min<=n/\n<=Lo.u8.max:=by simpa [Lo.min,Lo.max,Lo.signed,Lo.bits]using h
theorem Au.add(a:E x=Ac (.int k m))(b:E y=Ac (.int k n))(h:k.min<=m+n/\m+n<=k.max):Au P (.binOp .add Tx x y Ty) T E H O (.int k (m+n)):=by have:=Aiq (P:=P) (T:=T) (H:=H) (O:=O) (Tx:=Tx) (Ty:=Ty) a b;rwa [DX h]at this
theorem Au.sub(a:E x=Ac (.int k m))(b:E y=Ac (.int k n))(h:k.min<=m-n/\m-n<=k.max):Au P (.binOp .sub Tx x y Ty) T E H O (.int k (m-n)):=by have:=Aih (P:=P) (T:=T) (H:=H) (O:=O) (Tx:=Tx) (Ty:=Ty) a b;rwa [DX h]at this
theorem Au.mul(a:E x=Ac (.int k m))(b:E y=Ac (.int k n))(h:k.min<=m*n/\m*n<=k.max):Au P (.binOp .mul Tx x y Ty) T E H O (.int k (m*n)):=by have:=Aim (P:=P) (T:=T) (H:=H) (O:=O) (Tx:=Tx) (Ty:=Ty) a b;rwa [DX h]at this
theorem Au.eql(e:E x=Ac (.int k m))(f:E y=Ac (.int k n)):Au P (.binOp .eql Tx x y Ty) T E H O (.bool (Dl (m=n))):= .Ao λa w o d _ c _=>by simp[Kt,d,c x _ e,c y _ f,eqGuard,binOp,Op.intCmp];rw[Aen];simp
theorem Au.neq(e:E x=Ac (.int k m))(f:E y=Ac (.int k n)):Au P (.binOp .neq Tx x y Ty) T E H O (.bool (Dl (m≠n))):= .Ao λa w o d _ c _=>by simp[Kt,d,c x _ e,c y _ f,eqGuard,binOp,Op.intCmp];rw[Aen];simp
theorem Au.lss(e:E x=Ac (.int k m))(f:E y=Ac (.int k n)):Au P (.binOp .lss Tx x y Ty) T E H O (.bool (Dl (m<n))):= .Ao λa w o d _ c _=>by simp[Kt,d,c x _ e,c y _ f,eqGuard,binOp,Op.intCmp]
theorem Au.leq(e:E x=Ac (.int k m))(f:E y=Ac (.int k n)):Au P (.binOp .leq Tx x y Ty) T E H O (.bool (Dl (m<=n))):= .Ao λa w o d _ c _=>by simp[Kt,d,c x _ e,c y _ f,eqGuard,binOp,Op.intCmp]
theorem Au.gtr(e:E x=Ac (.int k m))(f:E y=Ac (.int k n)):Au P (.binOp .gtr Tx x y Ty) T E H O (.bool (Dl (n<m))):= .Ao λa w o d _ c _=>by simp[Kt,d,c x _ e,c y _ f,eqGuard,binOp,Op.intCmp]
theorem Au.geq(e:E x=Ac (.int k m))(f:E y=Ac (.int k n)):Au P (.binOp .geq Tx x y Ty) T E H O (.bool (Dl (n<=m))):= .Ao λa w o d _ c _=>by simp[Kt,d,c x _ e,c y _ f,eqGuard,binOp,Op.intCmp]
theorem Ajb{c:Lo}(i:P.underlying s=Ac ds)(f:P.underlying d=Ac (.int c))(j:E x=Ac (.int k m)):Au P (.convert s d x) T E H O (.int c (c.wrap m)):= .Ao λa w o h _ g _=>by simp[Kt,h,g x _ j,convert,AX i,AX f,Conv.intToInt]
theorem Au.conv{a:Lo}(c:P.underlying s=Ac ds)(b:P.underlying d=Ac (.int a))(e:E x=Ac (.int k m))(h:a.min<=m/\m<=a.max):Au P (.convert s d x) T E H O (.int a m):=by have:=Ajb (P:=P) (T:=T) (H:=H) (O:=O) c b e;rwa [DX h]at this
end
end ints
section words
variable {x y : DQ} {Tx Ty : Gq}
section
variable{k:Lo}{a:BitVec 64}{n:Nat}
def K0(a:BitVec 64):BZ:= .int .u64 a.toNat
theorem shift_shl(a:BitVec 64)(k:Lo)(n:Nat):Op.shift .shl .u64 a.toNat k n=pure (K0 (a<<<n)):=by
 have b:¬((n:Int)<0):=by omega
 have key:∀j:Nat,Lo.u64.wrap ((a.toNat:Int)*2^j)=((a.toNat*2^j %2^64:Nat):Int):=λj=>by simp[Lo.wrap,Lo.signed,Lo.bits]
 unfold Op.shift;rw[if_neg b];show(pure (.int .u64 (Lo.u64.wrap ((a.toNat:Int)*2^ (min n 64)))):Sem BZ)=_;rw[key,K0,BitVec.toNat_shiftLeft,Nat.shiftLeft_eq];by_cases h:n<=64;· rw[Adh h]
 ·rw[Nat.min_eq_right (by omega)];have c:a.toNat*2^n %2^64=0:=by
   rw[show n=64+(n-64) by omega,Nat.pow_add,<-Aeo,Nat.mul_right_comm,Nat.mul_mod_left]
  rw[c,Nat.mul_mod_left]
theorem shift_shr(a:BitVec 64)(k:Lo)(n:Nat):Op.shift .shr .u64 a.toNat k n=pure (K0 (a>>>n)):=by
 have c:¬((n:Int)<0):=by omega
 have key:∀j:Nat,(a.toNat:Int).fdiv (2^j)=((a.toNat/2^j:Nat):Int):=λj=>by rw[Int.fdiv_eq_ediv_of_nonneg _ (Int.pow_nonneg (by decide))];simp
 unfold Op.shift;rw[if_neg c];show(pure (.int .u64 ((a.toNat:Int).fdiv (2^ (min n 64)))):Sem BZ)=_;rw[key,K0,BitVec.toNat_ushiftRight,Nat.shiftRight_eq_div_pow];by_cases h:n<=64;· rw[Adh h]
 ·rw[Nat.min_eq_right (by omega)];have d:a.toNat/2^n=0:=Nat.div_eq_of_lt (Abr a.isLt (Agw (by decide) (by omega)));rw[d,Nat.div_eq_of_lt a.isLt]
theorem Aij(e:E x=Ac (K0 a))(f:E y=Ac (.int k (n:Int))):Au P (.binOp .shl Tx x y Ty) T E H O (K0 (a<<<n)):= .Ao λg w o d _ c _=>by have:=shift_shl a k n;simp only[K0]at*;simp[Kt,d,c x _ e,c y _ f,eqGuard,binOp,this]
theorem Aii(e:E x=Ac (K0 a))(f:E y=Ac (.int k (n:Int))):Au P (.binOp .shr Tx x y Ty) T E H O (K0 (a>>>n)):= .Ao λg w o d _ c _=>by have:=shift_shr a k n;simp only[K0]at*;simp[Kt,d,c x _ e,c y _ f,eqGuard,binOp,this]
end
end words
section
variable{x:DQ}{t:Gq}{v:BZ}{e:Gq}{bytes:Nat}{z:BZ}{d:TypeDesc}{w:IU}{y:DQ}{i n size:Nat}{Tx:Gq}{b:Bool}{vs:List BZ}{a:Bool}{B off:Nat}{k:Lo}{xs:List BZ}{cs:Array BZ}
theorem Au.not(e:E x=Ac (.bool b)):Au P (.unOp .not Tx x) T E H O (.bool (!b)):= .Ao λf w o d _ c _=>by simp[Kt,d,c x _ e,Op.unary]
theorem Mq(ht:P.underlying Tx=Ac .bool):(qn Tx (.bool a) (.bool b)).run P w= .ok (a==b) w:=by
 have h:∀d,(ns (d+1) Tx (.bool a) (.bool b)).run P w= .ok (a==b) w:=λd=>by simp[ns,AX ht]
 unfold qn Alu;exact h 9999
theorem Ajk{Ty:Gq}(ht:P.underlying Tx=Ac .bool)(f:E x=Ac (.bool a))(g:E y=Ac (.bool b)):Au P (.binOp .eql Tx x y Ty) T E H O (.bool (a==b)):= .Ao λh w o e _ d _=>by have:=Mq (w:=w) (a:=a) (b:=b) ht;simp[Kt,e,d x _ f,d y _ g,eqGuard,binOp,this]
theorem Aji{Ty:Gq}(ht:P.underlying Tx=Ac .bool)(f:E x=Ac (.bool a))(g:E y=Ac (.bool b)):Au P (.binOp .neq Tx x y Ty) T E H O (.bool (!(a==b))):= .Ao λh w o e _ d _=>by have:=Mq (w:=w) (a:=a) (b:=b) ht;simp[Kt,e,d x _ f,d y _ g,eqGuard,binOp,this]
theorem Au.extract{vs:Array BZ}(e:E x=Ac (.tuple vs))(hi:vs[i]?=Ac v):Au P (.extract x i) T E H O v:= .Ao λf w o d _ c _=>by simp[Kt,d,c x _ e,Instr.extract,hi]
theorem Au.len(ht:P.underlying t=Ac (.slice e))(h:E x=Ac v)(f:Tt v n):Au P (.call {callee:= .builtin .len,args:= #[x],argTypes:= #[t]}) T E H O (.int .i64 n):= .Ao λi w o g _ d _=>by rcases f with⟨rfl,rfl⟩|⟨a,cap,rfl,_⟩<;>simp[Kt,g,d x _ h,resolve,invoke,builtin,Builtin.len_,AX ht,goInt]
theorem Ako{s:ByteArray}(ht:P.underlying t=Ac .string)(e:E x=Ac (.string s)):Au P (.call {callee:= .builtin .len,args:= #[x],argTypes:= #[t]}) T E H O (.int .i64 s.size):= .Ao λf w o d _ c _=>by simp[Kt,d,c x _ e,resolve,invoke,builtin,Builtin.len_,AX ht,goInt]
theorem Au.wC{len off':Nat}{i:Int}(ht:P.underlying t=Ac (.array len e))(d:TI P e size bytes z)(j:E x=Ac (ptr B off))(l:E y=Ac (.int k i))
  (h:0<=i/\i<len) (c:off+i.toNat*size=off'):Au P (.indexAddr t x y) T E H O (ptr B off'):= .Ao λm w o g _ f _=>by
 simp only[ptr]at*;subst c;simp[Kt,g,f x _ j,f y _ l,Instr.indexAt,asIntOf,AX ht,nz,h,d.sizeOf,xt]
theorem Agi{i:Int}(ht:P.underlying t=Ac (.slice e))(d:TI P e size bytes z)(l:E x=Ac v)(g:Tt v n)(m:E y=Ac (.int k i))
  (h:0<=i/\i<n):Au P (.indexAddr t x y) T E H O (AL v (i.toNat*size)):= .Ao λp w o j _ f _=>by
 rcases g with⟨rfl,rfl⟩|⟨a,cap,rfl,_⟩;· omega
 ·simp[Kt,j,f x _ l,f y _ m,Instr.indexAt,asIntOf,AX ht,h,d.sizeOf,AL]
theorem Akh{d:Gq}{i:Int}{s j:Nat}(ht:P.underlying t=Ac (.slice e))(b:TI P e size bytes z)(p:E x=Ac v)(l:O[j]?=Ac (.row v d s n xs))(q:E y=Ac (.int k i))
 (h:0<=i/\i<n):Au P (.indexAddr t x y) T E H O (AL v (i.toNat*size)):=λa w o m f g c=>Agi (H:=H) (O:=O) ht b p (c.IL l).1 q h a w o m f g c
theorem run_loadCells{P:GN}{w:IU}{a:Addr} :∀ {vs:List BZ} {i:Nat} {acc:Array BZ},(∀j u,vs[j]?=Ac u->w.cell? (a.add (i+j))=Ac u)->
  (loadCellsFrom a i vs.length acc).run P w= .ok (acc++vs.toArray) w
 | [],i,acc,_=>by simp[loadCellsFrom]
 |v::vs,i,acc,h=>by
  have b:=h 0 v rfl;simp only[Ago]at b;have d:=run_loadCells (P:=P) (w:=w) (a:=a) (vs:=vs) (i:=i+1) (acc:=acc.push v) (λj u c=>by have:=h (j+1) u (by simpa using c);rwa [show i+(j+1)=i+1+j by omega]at this);simp only[Abn,loadCellsFrom,mZ,run_load,b,iP,d];simp
theorem Dj{a:Addr}(ht:P.underlying t=Ac d)(b:DL d=Aj)(h:w.cell? a=Ac v):(loadVar t a).run P w= .ok v w:=by simp[loadVar,Cg ht,b,h]
theorem Dk{a:Addr}(ht:P.underlying t=Ac d)(c:DL d=Bp)(b:TI P t vs.length bytes z)(h:∀j u,vs[j]?=Ac u->w.cell? (a.add j)=Ac u):(loadVar t a).run P w= .ok (.agg vs.toArray) w:=by have:=run_loadCells (P:=P) (w:=w) (a:=a) (vs:=vs) (i:=0) (acc:= #[]) (λj u e=>by simpa using h j u e);simp[loadVar,Cg ht,c,b.sizeOf,loadCells,this]
theorem Agj{m:Gq}{f:Nat×Nat}(ht:P.underlying t=Ac d)(g:DL d=Aj)(c:E x=Ac (ptr B off))(hi:O[i]?=Ac (.Ai B (.cells cs m f)))(l:cs[off]?=Ac v):
  Au P (.load t x) T E H O v:= .Ao λn w o j _ h k=>by
 simp only[ptr]at c;simp[Kt,j,h x _ c,zH,nz,Dj ht g (k.LW hi l)]
theorem Akm{r:Gq}{h:Nat×Nat}(ht:P.underlying t=Ac d)(k:DL d=Bp)(e:TI P t vs.length bytes z)(f:E x=Ac (ptr B off))(hi:O[i]?=Ac (.Ai B (.cells cs r h)))
  (q:∀j u,vs[j]?=Ac u->cs[off+j]?=Ac u):Au P (.load t x) T E H O (.agg vs.toArray):= .Ao λs w o n _ l p=>by
 simp only[ptr]at f;have:=Dk (P:=P) (w:=w) (a:=⟨B,off,C7⟩) ht k e (λj u m=>by rw[rB];exact p.LW hi (q j u m));simp[Kt,n,l x _ f,zH,nz,this]
theorem sF.cells(e:SH w H O){k:Nat}(h0:vs≠ [])(h:∀j u,vs[j]?=Ac u->DV H (AL v (k+j)) u):
  ∃a:Addr,AL v k= .pointer (Ac a)/\∀j u,vs[j]?=Ac u->w.cell? (a.add j)=Ac u:=by
 cases v with
 |slice b n c=>
  cases b with
  |none=>
   cases vs with
   |nil=>exact absurd rfl h0
   |cons y i=>
    obtain⟨a,d,_⟩:=(h 0 y rfl).cell e;simp[AL,undef]at d
  |some b=>
   refine⟨b.add k,rfl,λj u g=>?_⟩;obtain⟨a,d,f⟩:=(h j u g).cell e;simp only[AL,BZ.pointer.injEq,Adz]at d;rw[<-d]at f;rw[C8];exact f
 |_=>
  cases vs with
  |nil=>exact absurd rfl h0
  |cons y i=>
   obtain⟨a,d,_⟩:=(h 0 y rfl).cell e;simp[AL,undef]at d
theorem Ahs{u:BZ}{k:Nat}(ht:P.underlying t=Ac d)(j:DL d=Aj)(f:E x=Ac (AL v k))(hi:O[i]?=Ac (.row v e size n xs))(q:xs[k]?=Ac u):
  Au P (.load t x) T E H O u:= .Ao λr w o m _ l p=>by
 obtain⟨a,g,_,_,h,_⟩:=p.fQ hi q;rw[g]at f;simp[Kt,m,l x _ f,zH,nz,Dj ht j h]
theorem Akn{k:Nat}(ht:P.underlying t=Ac d)(r:DL d=Bp)(c:TI P t vs.length bytes z)(h0:vs≠ [])(p:E x=Ac (AL v k))(hi:O[i]?=Ac (.row v e size n xs))(m:∀j u,vs[j]?=Ac u->xs[k+j]?=Ac u):
  Au P (.load t x) T E H O (.agg vs.toArray):= .Ao λD w o B _ s C=>by
 have h:=C.ok i _ hi;simp only[Aw.ok]at h;rcases h.2 with⟨rfl,rfl⟩|⟨g,cap,cur,rfl,_,F,_,_,_,f⟩;· have l:xs=[]:=Abd (by simpa using h.1);subst l;cases vs with
  |nil=>exact absurd rfl h0
  |cons y G=>have:=m 0 y rfl;simp at this
 ·have q:∀j u,vs[j]?=Ac u->w.cell? ((xt ⟨g,0,C7⟩ k).add j)=Ac u:=λj u A=>by
   have:=h.cells (g:=g) rfl (k+j) u (m j u A);rw[C8];exact this
  simp only[AL]at p;simp[Kt,B,s x _ p,zH,nz,Dk (w:=w) ht r c q]
end
end
theorem E2(w:IU)(g:Nat)(cs:Array BZ):w.grownBy (w.setRow g cs) (Ac g):=
 ⟨rfl,rfl,rfl,by simp,λk _ a=>setRow_other w g k cs (λe=>a (by rw[e]))⟩
def Ct(xs:List BZ)(off:Nat)(vs:List BZ):List BZ:=xs.take off++vs++xs.drop (off+vs.length)
theorem Vw(xs:List BZ)(off:Nat)(v:BZ)(h:off<xs.length):Ct xs off [v]=xs.set off v:=by unfold Ct;rw[Ady];simp[h]
theorem II(xs:List BZ)(off:Nat)(vs:List BZ)(h:off+vs.length<=xs.length):(Ct xs off vs).length=xs.length:=by unfold Ct;simp;omega
theorem Zv(xs:List BZ)(off m:Nat)(vs:List BZ)(h:off+vs.length<=m)(h2:m<=xs.length):(Ct xs off vs).take m=Ct (xs.take m) off vs:=by
 unfold Ct;have c:(xs.take off++vs).length=off+vs.length:=by simp;omega
 rw[Adw,c,Abm (by omega),Agy,Adh (by omega),Ahb]
theorem K2{P:GN}{w:IU}{t:Gq}{v:BZ}{g off bytes:Nat}{z:BZ}{cur:Array BZ}{e:Gq}(c:TI P t v.cells.size bytes z)(d:w.heap[g]?=Ac (.cells cur e (0,0)))(a:off+v.cells.size<=cur.size)
  (h1:∀u∈v.cells,u.oneCell'=Bp):(storeVar t ⟨g,off,C7⟩ v).run P w= .ok () (w.setRow g (Ct cur.toList off v.cells.toList).toArray):=by
 have:=run_storeCells_at (P:=P) g off e v.cells.toList 0 cur w d (by simpa using a) (λu f=>h1 u (by simpa using f));simp only[Ago]at this;simp[storeVar,c.sizeOf,this,Ct]
section
variable {P : GN} {Q : Exit -> Act -> IU -> Prop} {n : Nat} {L : List (Nat × BZ)} {H : Hp} {O : List Aw} {ops : Array K7} {rest : List K7}
variable {T : Gq} {E : DQ -> Option BZ}
section
variable{size:Nat}{t:Gq}{v z:BZ}{bytes:Nat}{e:Gq}{i:Nat}{x:DQ}{cs:Array BZ}{R:BZ->Hp->List Aw->Prop}{y:DQ}{B:Nat}{vs:List BZ}{m:Nat}{xs:List BZ}{w:IU}{op:Op}{off:Nat}{f:FuncId}{zs:Array BZ}{ps:List (Nat×DQ)}{fn:Func}{X:Ending->IU->Prop}
theorem BM.mono{d:BZ->Hp->List Aw->Prop}(h:BM P op T E H O R)(p:∀v b c,R v b c->d v b c):BM P op T E H O d:=
 λa w o next Q i j k l m=>h a w o next Q i j k l λv q b c e f g=>m v q b c e (p _ _ _ f) g
theorem BM.Ao(h:∀(a:Act) (w:IU) (o:K7),o.op=op->o.type=T->(∀x u,E x=Ac u->a.eval x=u)->SH w H O->
  ∃v w' b c,(Kt a.eval o).run P w= .ok (.value v) w'/\H.le b/\R v b c/\SH w' b c):BM P op T E H O R:=by
 intro a w o next Q i j k l m;obtain⟨v,w',b,c,d,e,f,g⟩:=h a w o i j k l;unfold K7.wp;rw[d];exact m v w' b c e f g
theorem BM.LL(h:∀(a:Act) (w:IU) (o:K7),o.op=op->o.type=T->(∀x u,E x=Ac u->a.eval x=u)->SH w H O->
  ∃w' b c,(Kt a.eval o).run P w= .ok .skip w'/\H.le b/\R undef b c/\SH w' b c):BM P op T E H O R:=by
 intro a w o next Q i j k l m;obtain⟨w',b,c,d,e,f,g⟩:=h a w o i j k l;unfold K7.wp;rw[d];exact m undef w' b c e f g
theorem BM.Rl(A:E x=Ac (ptr B off))(K:E y=Ac v)(p:v.cells.toList=vs)(m:TI P t size bytes z)(I:vs.length=size)
  (h1:∀u∈vs,u.oneCell'=Bp) (hi:O[i]?=Ac (.Ai B (.cells cs e (0,0)))) (r:off+vs.length<=cs.size):
  BM P (.store t x y) T E H O (λ_ C D=>C=H/\D=O.set i (.Ai B (.cells (Ct cs.toList off vs).toArray e (0,0)))):= .LL λa w o G _ q s=>by
 have l:=s.ok i _ hi;simp only[Aw.ok]at l;have d:v.cells.size=vs.length:=by rw[<-p];simp
 have f:=K2 (P:=P) (w:=w) (t:=t) (v:=v) (g:=B) (off:=off) (e:=e) (by rw[d,I];exact m) l (by omega) (λu J=>h1 u (by rw[<-p];simpa using J));simp only[ptr]at A;rw[p]at f;refine⟨_,H,_,?_,Hp.le.refl H,⟨rfl,rfl⟩,s.set hi (E2 w B _) (setRow_heap w B cs _ e _ l) (λb F=> .inl F)⟩;simp[Kt,G,q x _ A,q y _ K,Instr.storeAt,nz,f]
theorem Fe.Rl{pos:String}{g:Array Edge}{cs':Array BZ}(l:ev L x=Ac (ptr B off))(m:ev L y=Ac v)(j:v.cells.toList=vs)(f:TI P t size bytes z)(h:vs.length=size)
  (h1:∀u∈vs,u.oneCell'=Bp) (hi:O[i]?=Ac (.Ai B (.cells cs e (0,0)))) (a:off+vs.length<=cs.size) (d:(Ct cs.toList off vs).toArray=cs')
  (k:Fe P ops Q rest n L H (O.set i (.Ai B (.cells cs' e (0,0))))):
  Fe P ops Q ({dst:=C7,op:= .store t x y,type:=T,pos,after:=g,guard:=C7} ::rest) n L H O:=
 Fe.opS0 (BM.Rl l m j f h h1 hi a) (by rintro v o p _ ⟨rfl,rfl⟩;subst d;exact k)
theorem Fe.ov{pos:String}{f:Array Edge}(j:ev L x=Ac (ptr B off))(l:ev L y=Ac v)(h:v.oneCell'=Bp)(c:TI P t 1 bytes z)
  (hi:O[i]?=Ac (.Ai B (.cells cs e (0,0)))) (a:off<cs.size)
  (k:Fe P ops Q rest n L H (O.set i (.Ai B (.cells (cs.setIfInBounds off v) e (0,0))))):
  Fe P ops Q ({dst:=C7,op:= .store t x y,type:=T,pos,after:=f,guard:=C7} ::rest) n L H O:=by
 have g:v.cells.toList=[v]:=by cases v<;>simp_all [BZ.cells,BZ.oneCell']
 refine Fe.Rl j l g c rfl (λu d=>by simp at d;subst d;exact h) hi (by simp;omega) ?_ k;rw[Vw _ _ _ (by simpa using a)];rw[<-Array.toList_setIfInBounds]
theorem Ahm{u:BZ}{k sz:Nat}(M:E x=Ac (AL v k))(X:E y=Ac u)(D:u.cells.toList=vs)(C:TI P t sz bytes z)(J:vs.length=sz)(h0:0<sz)
  (h1:∀u∈vs,u.oneCell'=Bp) (hi:O[i]?=Ac (.row v e size m xs)) (c:k+vs.length<=xs.length):
  BM P (.store t x y) T E H O (λ_ R S=>R=H/\S=O.set i (.row v e size m (Ct xs k vs))):= .LL λa w o V _ F K=>by
 have d:=K.ok i _ hi;simp only[Aw.ok]at d;rcases d.2 with⟨rfl,rfl⟩|⟨g,cap,cur,rfl,A,G,I,U,p,l⟩;· have:xs=[]:=Abd (by simpa using d.1);subst this;simp at c;simp[c]at J;omega
 ·have j:u.cells.size=vs.length:=by rw[<-D];simp
  have B:m*size<=cur.size:=by rw[p];exact Abi _ I
  have h:k+vs.length<=m*size:=by rw[<-d.1];exact c
  have q:=K2 (P:=P) (w:=w) (t:=t) (v:=u) (g:=g) (off:=k) (e:=e) (by rw[j,J];exact C) G (by omega) (λu W=>h1 u (by rw[<-D];simpa using W));rw[D]at q;simp only[AL,rB,Abl]at M;refine⟨_,H,_,?_,Hp.le.refl H,⟨rfl,rfl⟩,K.set hi (E2 w g (Ct cur.toList k vs).toArray) (r':= .row (.slice (Ac ⟨g,0,C7⟩) m cap) e size m (Ct xs k vs)) ?_ (λb A=> .inl A)⟩;· simp[Kt,V,F x _ M,F y _ X,Instr.storeAt,nz,q]
  ·refine⟨by rw[II _ _ _ c];exact d.1, .inr ⟨g,cap,_,rf,A,setRow_heap w g cur _ e _ G,I,U,?_,?_⟩⟩;· simp only[List.size_toArray];rw[II _ _ _ (by simp;omega)];simpa using p
   ·show(Ct cur.toList k vs).take (m*size)=_;rw[Zv _ _ _ _ h (by simpa using B),l]
theorem SH.IM(c:SH w H O)(e:Gq)(size:Nat):SH w H (.row (.slice C7 0 0) e size 0 []::O):=
 c.push (IU.grownBy.refl w C7) (IU.ownsRow_nil w 0 e size) (λb a=>by simp[Aw.has,BZ.ownBlock]at a)
def YZ(E:DQ->Option BZ):List (Nat×DQ)->Option (List (Nat×BZ))
 | []=>Ac []
 |(i,x)::r=>match E x,YZ E r with
  |some v,Ac vs=>Ac ((i,v)::vs)
  |_,_=>C7
theorem HD{E:DQ->Option BZ}{a:Act}(d:∀x u,E x=Ac u->a.eval x=u):∀ {ps:List (Nat×DQ)} {vs:List (Nat×BZ)},YZ E ps=Ac vs->ps.map (λp=>(p.1,a.eval p.2))=vs
 | [],vs,h=>by simpa [YZ]using h
 |(i,x)::r,vs,h=>by
  simp only[YZ]at h;cases b:E x with
  |none=>simp[b]at h
  |some v=>
   cases c:YZ E r with
   |none=>simp[b,c]at h
   |some e=>
    simp[b,c]at h;subst h;simp[d x v b];have:=HD d c;simpa using this
theorem Au.build{fs:Array Field}{vs:List (Nat×BZ)}{places:Array (Nat×Nat)}(ht:P.underlying t=Ac (.struct fs))(p:TI P t size bytes z)(g:z.cells=zs)
  (m:∀w,(fs.mapM λf=>do pure (f.offset,<-q6 f.type):Sem (Array (Nat×Nat))).run P w= .ok places w) (e:YZ E ps=Ac vs) (k:ny (places[·]?) zs vs=Ac cs):Au P (.build t ps.toArray) T E H O (.agg cs):= .Ao λa w o l _ j _=>by
 have h:(ps.toArray.map λ(i,x)=>(i,a.eval x)).toList=vs:=by simpa using HD j e
 simp only[Kt,l,Instr.build,mZ,p.zeroValue,iP,AX ht,g];rw[m w];simp only[iP,h,k];rfl
theorem Au.rL{len b c:Nat}{l:BZ}{vs:List (Nat×BZ)}(ht:P.underlying t=Ac (.array len e))(s:TI P t size bytes z)(k:TI P e b c l)(j:z.cells=zs)
  (h:YZ E ps=Ac vs) (q:ny (λi=>Ac (i*b,b)) zs vs=Ac cs):Au P (.build t ps.toArray) T E H O (.agg cs):= .Ao λa w o r _ p _=>by
 have m:(ps.toArray.map λ(i,x)=>(i,a.eval x)).toList=vs:=by simpa using HD p h
 simp only[Kt,r,Instr.build,mZ,s.zeroValue,iP,AX ht,j,k.sizeOf,m,q];rfl
theorem XV(l:List BZ):∀(k:Nat) (acc:Array BZ) (i:Nat),((l.zipIdx k).foldl (λcs (p:BZ×Nat)=>cs.setIfInBounds p.2 p.1) acc)[i]?=if k<=i/\i<k+l.length/\i<acc.size then l[i-k]? else acc[i]?:=by
 induction l with
 |nil=>intro k acc i;simp;intro c b;omega
 |cons v l h=>
  intro k acc i;rw[List.zipIdx_cons,Afp,h (k+1) (acc.setIfInBounds k v) i];simp only[Array.size_setIfInBounds,Array.getElem?_setIfInBounds,Abn];by_cases c:k=i
  ·subst c;by_cases b:k<acc.size
   ·have a:¬(k+1<=k):=by omega
    have e:k<k+(l.length+1):=by omega
    simp[a,b,e]
   ·have a:¬(k+1<=k):=by omega
    simp[a,b]
  ·by_cases b:k<=i
   ·have a:k+1<=i:=by omega
    have f:(i<k+1+l.length)↔(i<k+(l.length+1)):=by omega
    have g:i-k=(i-(k+1))+1:=by omega
    simp only[a,b,true_and,f,c,if_false,g,Acq]
   ·have a:¬(k+1<=i):=by omega
    simp[a,b,c]
def Src(w:IU)(x:BZ)(size m:Nat)(a:List BZ):Prop:=a.length=m*size/\((x= .slice C7 0 0/\m=0)\/∃b c,x= .slice (Ac b) m c/\∀j u,a[j]?=Ac u->w.cell? (b.add j)=Ac u)
theorem SH.oy(a:SH w H O)(hi:O[i]?=Ac (.row v e size m xs)):Src w v size m xs:=by
 have h:=a.ok i _ hi;simp only[Aw.ok]at h;refine⟨h.1,?_⟩;rcases h.2 with⟨rfl,rfl⟩|⟨g,cap,cur,rfl,_⟩;· exact .inl ⟨rfl,rfl⟩
 ·exact .inr ⟨_,_,rf,h.cells (g:=g) rf⟩
theorem SH.TW(f:SH w H O)(b:Sl H v size m xs):Src w v size m xs:=by
 refine⟨b.len,?_⟩;rcases b.sl with⟨rfl,rfl⟩|⟨a,cap,rfl,_⟩;· exact .inl ⟨rfl,rfl⟩
 ·refine .inr ⟨_,_,rfl,λj u e=>?_⟩;obtain⟨g,c,d⟩:=(b.cells j u e).cell f;simp only[AL,BZ.pointer.injEq,Adz]at c;rw[c];exact d
theorem BM.append{s:DQ}{y:BZ}{d:List BZ}(ht:P.underlying t=Ac (.slice e))(hz:TI P e size bytes z)(K:z.cells.size=size)(h0:0<size)(hs:E s=Ac v)(hx:E x=Ac y)
  (hi:O[i]?=Ac (.row v e size m xs)) (A:∀w,SH w H O->Src w y size B d) (h1:∀u∈d,u.oneCell'=Bp) (p:(m+B)*bytes<=140737488355328) (hl:m+B<=140737488355328):
  BM P (.call {callee:= .builtin .append,args:= #[s,x],argTypes:= #[t,t]}) T E H O (λv' H' O'=>H'=H/\O'=O.set i (.row v' e size (m+B) (xs++d))):=by
 intro a w o next Q ho hT N Y k;have f:=Y.ok i _ hi;simp only[Aw.ok]at f;obtain⟨ii,q,g1,U,V⟩:=hz.ex;have key:∀v' C,C.ownsRow 0 e size v' (m+B) (xs++d)->w.grownBy C v.ownBlock->(v'.ownBlock=v.ownBlock\/∀b,v'.ownBlock=Ac b->w.heap.size<=b)->next (a.put o.dst v') C:=λv' C k1 k2 F=>
  k v' C H _ (Hp.le.refl H) ⟨rfl,rfl⟩ (Y.set hi k2 k1 (λb p=>by
   rcases F with F|F;· left;rw[Aw.has]at p⊢;rw[<-F];exact p
   ·exact .inr (F b p)));obtain⟨j,A⟩:=A w Y;rcases A with⟨rfl,rfl⟩|⟨M,c,rfl,h⟩;· have hn:d=[]:=Abd (by simpa using j);subst hn;have J:=run_append_owned_none (P:=P) (w:=w) 0 t o.type e ii size ht q v m xs f;unfold K7.wp;simp[Kt,ho,resolve,invoke,builtin,N s _ hs,N x _ hx,J,je];exact key v w (by simpa using f) (IU.grownBy.refl _ _) (.inl rfl)
 ·obtain⟨v',C,R,k1,k2,F⟩:=run_append_own (P:=P) w 0 t o.type e ii z size bytes ht q V g1 U K h0 v m xs f M B c d j h h1 (by simp only[maxLen];omega) p (Abh _);unfold K7.wp;simp[Kt,ho,resolve,invoke,builtin,N s _ hs,N x _ hx,R,je];refine key v' C k1 k2 ?_;subst g1;rcases f.2 with⟨rfl,rfl⟩|⟨g,cap,cur,rfl,_,hg,hnc,_,W,X⟩;· right;have Z:xs=[]:=Abd (by simpa using f.1);subst Z;obtain⟨v2,w2,l,q1,_,_⟩:=run_append_own (P:=P) w w.heap.size t o.type e ii z ii.size bytes ht q V rfl U K h0 (.slice C7 0 0) 0 [] (IU.ownsRow_nil w _ e _) M B c d j h h1 (by simp only[maxLen];omega) p (Aae _);rw[R]at l;injection l with G S;subst G;subst S;exact λb p=>(IU.ownsRow.lt q1 b p).1
  ·by_cases r:m+B<=cap
   ·left;have I:m*ii.size+d.length<=cur.size:=by rw[j,W,<-Adp];exact Abi _ r
    have l:=run_append_room (P:=P) w t o.type e ii ht q g m cap cur hg M B c d j h h1 r I;rw[R]at l;injection l with G S;rw[G];rfl
   ·right;have l:=run_append_grow (P:=P) w t o.type e ii z ht q V ⟨g,0,C7⟩ m cap xs f.1 (f.cells (g:=g) rfl) M B c d j h (by omega) (by omega) (growslice_fits (by omega) (by rw[U];exact p));rw[R]at l;injection l with G S;intro b p;rw[G]at p;simp[BZ.ownBlock]at p;omega
structure TM(P:GN)(f:FuncId):Prop where
 ex:∃fn,P.funcs[f]?=Ac fn/\(fn.name== "runtime.NumGoroutine")=Aj/\fn.body.isNone=Aj
theorem TM.run(h:TM P f)(args:Array BZ)(w:IU):(callFunc f args).run P w= .ok (.enter f args) w:=by
 obtain⟨fn,c,d,e⟩:=h.ex;have a:¬fn.name= "runtime.NumGoroutine" :=by simpa using d
 have b:¬fn.body=C7:=λh=>by simp[h]at e
 simp[callFunc,c,a,b]
def NR(E:DQ->Option BZ):List DQ->Option (List BZ)
 | []=>Ac []
 |x::xs=>match E x,NR E xs with
  |some v,Ac vs=>Ac (v::vs)
  |_,_=>C7
theorem Ib{a:Act}(e:∀x u,E x=Ac u->a.eval x=u):∀ {xs:List DQ} {vs:List BZ},NR E xs=Ac vs->xs.map a.eval=vs
 | [],vs,b=>by simpa [NR]using b
 |x::xs,vs,b=>by
  simp only[NR]at b;cases c:E x with
  |none=>simp[c]at b
  |some v=>
   cases d:NR E xs with
   |none=>simp[c,d]at b
   |some f=>
    simp[c,d]at b;subst b;simp[e x v c,Ib e d]
def Ret(H:Hp)(R:BZ->Hp->List Aw->Prop)(e:Ending)(w':IU):Prop:= ∃v a b,e= .returned v/\H.le a/\SH w' a b/\R v a b
def Ts(P:GN)(f:FuncId)(args:List BZ)(H:Hp)(O:List Aw)(R:BZ->Hp->List Aw->Prop):Prop:= ∀w,SH w H O->Calls P f args.toArray w (Ret H R)
def jz(P:GN)(f:FuncId)(args:List BZ)(H:Hp)(O:List Aw)(v:BZ):Prop:= ∀w,SH w H O->Calls P f args.toArray w λe w'=>e= .returned v/\SH w' H O
theorem Ts.mono{args:List BZ}{c:BZ->Hp->List Aw->Prop}(h:Ts P f args H O R)(j:∀v a b,H.le a->R v a b->c v a b):Ts P f args H O c:=λw k=>
 (h w k).mono λ_ _ ⟨v,a,b,e,d,g,i⟩=>⟨v,a,b,e,d,g,j _ _ _ d i⟩
def J3:Nat->List BZ->List (Nat×BZ)
 |_,[]=>[]
 |i,v::vs=>(i,v)::J3 (i+1) vs
theorem Pb:∀(vs:List BZ) (i t:Nat) (v:BZ),lk (J3 i vs) t=Ac v->i<=t/\vs[t-i]?=Ac v
 | [],_,_,_,h=>by simp[J3,lk]at h
 |u::c,i,t,v,h=>by
  simp only[J3,lk]at h;cases a:Hh i t with
  |true=>
   rw[a]at h;have:=AI a;subst this;simp at h;subst h;exact⟨Aae _,by simp⟩
  |false=>
   rw[a]at h;have ne:=Abf a;obtain⟨d,b⟩:=Pb c (i+1) t v h;refine⟨by omega,?_⟩;rw[show t-i=(t-(i+1))+1 by omega];simpa using b
theorem Fr.enter(vs:List BZ)(n:Nat)(h:iT vs.length n=Bp):Fr {tmps:=vs.toArray++Alw (n-vs.toArray.size) undef,defers:=[]} n (J3 0 vs):=by
 have g:=Aax h;refine⟨rfl,by simp;omega,λt v f=>?_⟩;obtain⟨_,c⟩:=Pb vs 0 t v f;simp at c;have a:t<vs.length:=(IT.1 c).1;have e:vs[t]=v:=by rw[GB a]at c;exact Abp c
 simp[Array.getElem?_append,a,e]
theorem kW{c:Code}(d:P.funcs[f]?=Ac fn)(b:fn.body=Ac c)(e:fn.ntmps=n)(a:iT vs.length n=Bp)
  (h:Wp P c (bodyPost P fn X) n (J3 0 vs) H O)  (g:SH w H O):Calls P f vs.toArray w X:=by
 subst e;exact calls_of_wp d b (h _ w (Fr.enter vs _ a) g)
def fK(a:Array BZ)(r:ResultVar):Sem BZ:=match r with
 | .tmp t=>pure (a.getD t undef)
 | .cell b t=>do loadVar t (<-asAddr (a.getD b undef))
theorem Mw(fn:Func)(a:Array BZ):results fn a=(do let vs<-fn.results.mapM (fK a);pure (if h:vs.size=1 then vs[0]else .tuple vs)):=by
 have:(λr=>match r with
  | .tmp t=>(pure (a.getD t undef):Sem BZ)
  | .cell b t=>do loadVar t (<-asAddr (a.getD b undef)))=fK a:=by funext r;cases r<;>rfl
 unfold results;rw[<-this];rfl
theorem Ajg(c:fn.results= #[])(k:∀w,SH w H O->X (.returned (.tuple #[])) w):At (bodyPost P fn X) .normal n L H O:=λa w b d=>⟨b.defers,_,by simp[results,c],k w d⟩
end
end
section
variable{w:IU}{H:Hp}{O:List Aw}
theorem SH.weaken{a:Hp}(h:SH w a O)(hle:H.le a):SH w H O where
 MU b o hb:=h.MU b o (hle.1 b o hb)
 os:=h.os.trans hle.2.1
 output:=h.output.trans hle.2.2.1
 tape:=h.tape.trans hle.2.2.2
 ok:=h.ok
 Iy i r b hi hb:=by
  have:=h.Iy i r b hi hb;cases he:H.at_ b with
  |none=>rfl
  |some o=>rw[hle.1 b o he]at this;cases this
 nd:=h.nd
theorem SH.nt(h:SH w H O)(k:Nat):SH w H (O.drop k):=
 h.pick (λi=>k+i) (λi r a=>by simpa using a) (λi j _ _ h=>by omega)
end
section
variable {P : GN} {T : Gq} {E : DQ -> Option BZ} {H : Hp} {O : List Aw}
theorem Au.qH{x y:DQ}{t e:Gq}{d:TypeDesc}{len size bytes:Nat}{z:BZ}{k:Lo}{i:Int}{cs:Array BZ}(ht:P.underlying t=Ac (.array len e))(g:P.underlying e=Ac d)(f:DL d=Bp)(n:TI P e size bytes z)(l:E x=Ac (.agg cs))(m:E y=Ac (.int k i))(h:0<=i/\i<len):
  Au P (.index t x y) T E H O (.agg (cs.extract (i.toNat*size) (i.toNat*size+size))):= .Ao λp w o j _ a _=>by
 simp[Kt,j,a x _ l,a y _ m,Instr.index,asIntOf,AX ht,h,n.sizeOf,part,Cg g,f]
end
end Go.GK
namespace Go.GK
open Go.RowKit Go.Deep
def Hp.of(W:IU):Hp:= {at_:=λb=>W.heap[b]?,os:=W.os,output:=W.output,tape:=W.tape}
theorem Ahl(W:IU):SH W (Hp.of W) []:=
 ⟨λ_ _ h=>h,rfl,rfl,rfl,λi r h=>by simp at h,λi r b h=>by simp at h,λi j r a b h=>by simp at h⟩
theorem SH.below{W w':IU}{O:List Aw}(h:SH w' (Hp.of W) O):Below W.heap.size W w':=by
 have a:∀k,k<W.heap.size->w'.heap[k]?=W.heap[k]?:=λk b=>by have:=h.MU k W.heap[k] (by simp[Hp.of,b]);rw[this];simp[b]
 refine⟨h.os,h.tape,h.output,?_,a⟩;rcases Afu W.heap.size with c|c;· omega
 ·have:=a (W.heap.size-1) (by omega);rw[show W.heap[W.heap.size-1]?=Ac W.heap[W.heap.size-1] by simp]at this;have:=(Acw.1 this).1;omega
section
variable {H : Type} {enc : Gq × BZ -> H} {P : GN} {w : IU} {base : Nat} {spare : Nat -> Bool} {held : Bool}
theorem Ajs{a:Addr}{u:BZ}(h:w.cell? a=Ac u):DV (Hp.of w) (.pointer (Ac a)) u:=by
 unfold IU.cell? at h;cases b:w.heap[a.block]? with
 |none=>simp[b]at h
 |some o=>
  cases o with
  |cells c t e=>
   simp only[b]at h;cases d:a.spot with
   |none=>simp[d]at h;exact⟨a,c,t,e,rfl,d,b,h⟩
   |some x=>simp[d]at h
  |_=>simp[b]at h
theorem Li{α:Type}{Q:Nat->α->Prop} :∀n:Nat,(∀i,i<n->∃a,Q i a)->∃l:List α,l.length=n/\∀i a,l[i]?=Ac a->Q i a
 |0,_=>⟨[],rfl,λi a h=>by simp at h⟩
 |n+1,h=>by
  obtain⟨l,d,f⟩:=Li n λi j=>h i (by omega);obtain⟨a,g⟩:=h n (by omega);refine⟨l++[a],by simp[d],λi b c=>?_⟩;by_cases j:i<n;· rw[Pe (by omega)]at c;exact f i b c
  ·have e:i=n:=by have:=(IT.1 c).1;simp at this;omega
   subst e;rw[Aab (by omega)]at c;simp[d]at c;subst c;exact g
end
end Go.GK
namespace Go.GK
structure jC(P:GN)(s i off ft:Nat):Prop where
 ex:∃fs f,P.underlying s=Ac (.struct fs)/\fs[i]?=Ac f/\f.offset=off/\f.type=ft/\∃inf,P.info? ft=Ac inf/\inf.size≠0
def iw(P:GN)(s i:Nat):Option (Nat×Nat×Nat):=
 match P.underlying s with
 |some (.struct fs)=>match fs[i]? with
  |some f=>match P.info? f.type with
   |some a=>Ac (f.offset,f.type,a.size)
   |none=>C7
  |none=>C7
 |_=>C7
theorem jC.of{P:GN}{s i off b k:Nat}(h:iw P s i=Ac (off,b,k+1)):jC P s i off b:=by
 unfold iw at h;split at h
 ·rename_i d l;split at h
  ·rename_i f g;split at h;· rename_i a j;simp only[Adz,Aet]at h;obtain⟨e,c,m⟩:=h;exact⟨d,f,l,g,e,c,a,by rw[<-c];exact j,by omega⟩
   ·cases h
  ·cases h
 ·cases h
section
variable {P : GN} {T : Gq} {E : DQ -> Option BZ} {H : Hp} {O : List Aw} {x y : DQ}
section
variable{s i off:Nat}
theorem K5{w:IU}{g:Nat}{a:Addr}(j:jC P s i off g):(Instr.fieldAt s (.pointer (Ac a)) i).run P w= .ok (.pointer (Ac (a.add off))) w:=by
 obtain⟨o,f,m,c,l,n,e,k,h⟩:=j.ex;subst l n;have d:(q6 f.type).run P w= .ok e.size w:=by simp[q6,typeInfo,k]
 simp[Instr.fieldAt,AX m,c,nz,fieldPlace,d,h]
theorem Ags{d B o o':Nat}(f:jC P s i off d)(h:E x=Ac (ptr B o))(c:o+off=o'):Au P (.fieldAddr s x i) T E H O (ptr B o'):= .Ao λj w k g _ e _=>by subst c;simp only[ptr]at*;have:=K5 (w:=w) (a:=⟨B,o,C7⟩) f;simp[Kt,g,e x _ h,this,xt]
theorem Ahf{t:Gq}{s:ByteArray}{k:Lo}{i:Int}{b:UInt8}(ht:P.underlying t=Ac .string)(g:E x=Ac (.string s))(h:E y=Ac (.int k i))(h0:0<=i)(e:s[i.toNat]?=Ac b):Au P (.index t x y) T E H O (.int .u8 (b.toNat:Nat)):= .Ao λj w l f _ d _=>by simp[Kt,f,d x _ g,d y _ h,Instr.index,asIntOf,AX ht,h0,e]
end
end
def OS(P:GN):List Field->List Lo->Nat->Bool
 |f::fs,k::b,j=>f.name != "_" &&f.offset==j&&(match P.underlying f.type with|some (.int a)=>a==k|_=>Aj)&&OS P fs b (j+1)
 | [],[],_=>Bp
 |_,_,_=>Aj
def Sh(P:GN)(t:Gq)(a:List Lo):Bool:=
 match P.underlying t with
 |some (.struct fs)=>OS P fs.toList a 0&& !P.stoodInHeld t&& !P.eqGuardType P.depth t
 |_=>Aj
def CT(a:List Lo)(aS:List Int):List BZ:=List.zipWith BZ.int a aS
theorem Fi{P:GN}{d:Nat}(w:IU):∀(fs:List Field) (g:List Lo) (aS bs:List Int) (h i:List BZ),OS P fs g h.length=Bp->aS.length=g.length->bs.length=g.length->h.length=i.length->
  (Op.eqFields (d+1) (h++CT g aS).toArray (i++CT g bs).toArray fs).run P w= .ok (Dl (aS=bs)) w
 | [],g,aS,bs,h,i,m,j,l,p=>by
  cases g with
  |nil=>simp at j l;subst j l;simp[Op.eqFields]
  |cons=>simp[OS]at m
 |f::fs,g,aS,bs,h,i,m,j,l,p=>by
  cases g with
  |nil=>simp[OS]at m
  |cons k g=>
   cases aS with
   |nil=>simp at j
   |cons a aS=>
    cases bs with
    |nil=>simp at l
    |cons b bs=>
     simp only[OS,AT,bne_iff_ne,ne_eq,beq_iff_eq]at m;obtain⟨⟨⟨u,s⟩,o⟩,v⟩:=m;have n:P.underlying f.type=Ac (.int k):=by
      split at o;· rename_i A n;rw[n];simp at o;rw[o]
      ·cases o
     have t:=Fi (P:=P) (d:=d) w fs g aS bs (h++[.int k a]) (i++[.int k b]) (by simpa using v) (by simpa using j) (by simpa using l) (by simp[p]);have q:h++CT (k::g) (a::aS)=(h++[.int k a])++CT g aS:=by simp[CT]
     have r:i++CT (k::g) (b::bs)=(i++[.int k b])++CT g bs:=by simp[CT]
     rw[<-q,<-r]at t;have x:(part f.type (h++CT (k::g) (a::aS)).toArray f.offset).run P w= .ok (.int k a) w:=by simp[part,Cg n,DL,s,q]
     have y:(part f.type (i++CT (k::g) (b::bs)).toArray f.offset).run P w= .ok (.int k b) w:=by simp[part,Cg n,DL,s,r,p]
     have z:(ns (d+1) f.type (.int k a) (.int k b)).run P w= .ok (a==b) w:=by simp[ns,AX n]
     simp only[Op.eqFields,u,not_false_eq_true,ne_eq,if_true,mZ,x,y,z,iP];by_cases e:a=b;· subst e;simp only[beq_self_eq_true,Ahj,Adx,if_false,t,Ale,true_and]
     ·simp[e]
section
variable {P : GN} {T : Gq} {E : DQ -> Option BZ} {H : Hp} {O : List Aw} {x y : DQ} {Tx Ty : Gq} {ks : List Lo} {xs ys : List Int}
theorem Mr{d:Nat}(b:Sh P Tx ks=Bp)(w:IU)(h1:xs.length=ks.length)(h2:ys.length=ks.length):(ns (d+1+1) Tx (.agg (CT ks xs).toArray) (.agg (CT ks ys).toArray)).run P w= .ok (Dl (xs=ys)) w/\P.eqGuardType P.depth Tx=Aj:=by
 unfold Sh at b;split at b
 ·rename_i e f;simp only[AT,Aec]at b;have c:P.fieldsOf Tx=e:=by simp[GN.fieldsOf,f]
  refine⟨?_,b.2⟩;rw[run_equalIn_agg w (d+1) Tx _ _ (by rw[c,f]) b.1.2,c];have:=Fi (P:=P) (d:=d) w e.toList ks xs ys [] [] b.1.1 h1 h2 rf;simpa using this
 ·cases b
theorem Aks(j:Sh P Tx ks=Bp)(k:E x=Ac (.agg (CT ks xs).toArray))(l:E y=Ac (.agg (CT ks ys).toArray))(h1:xs.length=ks.length)(h2:ys.length=ks.length):Au P (.binOp .eql Tx x y Ty) T E H O (.bool (Dl (xs=ys))):= .Ao λa w o i _ f _=>by have h:=Mr (d:=9998) j w h1 h2;have g:=run_eqGuard_agg w .eql Tx x y (CT ks xs).toArray (CT ks ys).toArray h.2;have e:=run_eql_struct (P:=P) w Tx (CT ks xs).toArray (CT ks ys).toArray;rw[h.1]at e;simp only[Kt,i,mZ,f x _ k,f y _ l,g,iP,e,vS]
theorem Akt(j:Sh P Tx ks=Bp)(k:E x=Ac (.agg (CT ks xs).toArray))(l:E y=Ac (.agg (CT ks ys).toArray))(h1:xs.length=ks.length)(h2:ys.length=ks.length):Au P (.binOp .neq Tx x y Ty) T E H O (.bool (!decide (xs=ys))):= .Ao λa w o i _ f _=>by have h:=Mr (d:=9998) j w h1 h2;have g:=run_eqGuard_agg w .neq Tx x y (CT ks xs).toArray (CT ks ys).toArray h.2;have e:=run_neq_struct (P:=P) w Tx (CT ks xs).toArray (CT ks ys).toArray;rw[h.1]at e;simp only[Kt,i,mZ,f x _ k,f y _ l,g,iP,e,vS]
end
section
variable {P : GN} {T : Gq} {E : DQ -> Option BZ} {H : Hp} {O : List Aw}
def sb(s:ByteArray)(i:Nat):Nat:=(s.data.getD i 0).toNat
end
section
variable{l:List K7}{p:Nat->Bool}
def HE(acc:List Nat):List Edge->Nat
 | []=>0
 |e::es=>(if qf .any e then 2^e.on|||acc.getD e.on 0 else 0)|||HE acc es
def Np:List Nat->List K7->List Nat
 |acc,[]=>acc
 |acc,o::os=>Np (acc++[HE acc o.after.toList]) os
def UT(l:List K7)(i:Nat):Nat:=(Np [] l).getD i 0
def HR(l:List K7)(p:Nat->Bool):Prop:= ∀(j:Nat) (o:K7),l[j]?=Ac o->p j=Bp->∀e∈o.after,qf .any e=Bp->p e.on=Bp
theorem Ix{acc:List Nat}{j:Nat} :∀ {es:List Edge},(HE acc es).testBit j=Bp->∃e∈es,qf .any e=Bp/\(j=e.on\/(acc.getD e.on 0).testBit j=Bp)
 | [],h=>by simp[HE]at h
 |e::es,h=>by
  simp only[HE,Nat.testBit_or,Adj]at h;rcases h with h|h
  ·split at h;· rename_i g;simp only[Nat.testBit_or,Adj,Nat.testBit_two_pow,decide_eq_true_eq]at h;exact⟨e,by simp,g,h.imp Eq.symm id⟩
   ·simp at h
  ·obtain⟨c,d,f⟩:=Ix h;exact⟨c,by simp[d],f⟩
theorem Pf{l:List K7}{p:Nat->Bool}(A:HR l p):∀(os:List K7) (acc:List Nat) (pre:List K7),l=pre++os->acc.length=pre.length->
  (∀i,i<acc.length->∀o,l[i]?=Ac o->(∀e∈o.after,qf .any e=Bp->p e.on=Bp)->∀j,(acc.getD i 0).testBit j=Bp->p j=Bp)->
  GR pre.length os=Bp->
  ∀i,i<l.length->∀o,l[i]?=Ac o->(∀e∈o.after,qf .any e=Bp->p e.on=Bp)->∀j,((Np acc os).getD i 0).testBit j=Bp->p j=Bp
 | [],acc,pre,q,c,h,_,i,t,o,D,k,j,a=>by subst q;simp at t;exact h i (by omega) o D k j a
 |o::os,acc,pre,q,c,h,v,i,t,E,b,k,j,a=>by
  simp only[GR,AT]at v;refine Pf A os _ (pre++[o]) (by simp[q]) (by simp[c]) ?_ (by simpa using v.2) i t E b k j a;clear a k b t;intro i w s b k j a;by_cases e:i<acc.length;· rw[Aaa,Pe e,<-Aaa]at a;exact h i e s b k j a
  ·have B:i=acc.length:=by simp at w;omega
   subst B;rw[Aaa,Aab (Aae _)]at a;simp only[Air,Aln,Ack]at a;obtain⟨e,C,m,a⟩:=Ix a;have y:s=o:=by rw[q,c,Aab (Aae _)]at b;simpa using b.symm
   rw[y]at k;have n:e∈o.after:=by simpa using C
   have r:=k e n m;rcases a with rfl|a;· exact r
   ·have x:e.on<acc.length:=by
     have:=(Ait.1 v.1) e n;simp[m]at this;omega
    have g:∃u,l[e.on]?=Ac u:=by
     have:e.on<l.length:=by rw[q];simp;omega
     exact⟨l[e.on],by simp[this]⟩
    obtain⟨u,g⟩:=g;exact h e.on x u g (A e.on u g r) j a
theorem Tm(d:GR 0 l=Bp)(f:HR l p){i:Nat}{o:K7}(c:l[i]?=Ac o)(g:∀e∈o.after,qf .any e=Bp->p e.on=Bp):∀j,(UT l i).testBit j=Bp->p j=Bp:=
 Pf f l [] [] rfl rfl (λi h=>by simp at h) d i ((IT.1 c).1) o c g
def I_(p:Nat->Bool)(i:Nat):Nat->Bool:=λj=>if j=i then Bp else p j
end
section
variable {P : GN} {Q : Exit -> Act -> IU -> Prop} {l : List K7}
section
variable{J:(Nat->Bool)->Act->IU->Prop}
theorem jr(B:GR 0 l=Bp)
  (step:∀p a w i o,l[i]?=Ac o->p i=Aj->HR l p->(∀j,(UT l i).testBit j=Bp->p j=Bp)->(∀j I,l[j]?=Ac I->p j=Bp->∀m,(UT l j).testBit m=Bp->p m=Bp)->J p a w->
   if fp o (yielded l.toArray a.tmps)then o.wp P a w (J (I_ p i)) Q else J (I_ p i) (a.put o.dst undef) w)
  (K:∀p a w,(∀i,i<l.length->p i=Bp)->J p a w->Q .normal a w):
  ∀(f:Nat) (b:Array Bool) (a:Act) (w:IU),b.size=l.length->HR l (λi=>b.getD i Aj)->AD (λi=>b.getD i Aj) l.length=f->
   J (λi=>b.getD i Aj) a w->wpAny P .any l.toArray Q f b a w:=by
 have D:=Nn B;have g:∀(b:Array Bool),b.size=l.length->Aly .any l.toArray b=[]->∀i,i<l.length->b.getD i Aj=Bp:=by
  intro b n R i;induction i using Nat.strongRecOn with
  |_ i ih=>
   intro N;cases H:b.getD i Aj with
   |true=>rfl
   |false=>
    exfalso;have k:i∈Aly .any l.toArray b:=mem_ready.2 ⟨getD_in (by rw[n];exact N) H,l[i],by simp[N],λe U B=>by have:=D i l[i] (by simp[N]) e U B;exact ih e.on (by omega) (by omega)⟩;rw[R]at k;cases k
 intro f;induction f with
 |zero=>
  intro b a w n _ h T;have A:=SY h;have R:Aly .any l.toArray b=[]:=by
   cases W:Aly .any l.toArray b with
   |nil=>rfl
   |cons i rs=>
    exfalso;have k:i∈Aly .any l.toArray b:=by rw[W];simp
    obtain⟨G,oi,z,_⟩:=mem_ready.1 k;have y:i<l.length:=by simpa using(Acw.1 z).1
    have h2:b.getD i Aj=Bp:=A i y;rw[getD_both G]at h2;cases h2
  exact⟨R,K _ a w A T⟩
 |succ f ih=>
  intro b a w n r h T;refine⟨λR=>K _ a w (g b n R) T,λi N=>?_⟩;obtain⟨G,o,z,t⟩:=mem_ready.1 N;have x:l[i]?=Ac o:=by simpa using z
  have y:i<l.length:=(IT.1 x).1;have C:=getD_both G;have S:(b.setIfInBounds i Bp).size=l.length:=by simp[n]
  have M:(b.setIfInBounds i Bp).getD i Aj=Bp:=by simp[n,y]
  have E:∀j,j≠i->(b.setIfInBounds i Bp).getD j Aj=b.getD j Aj:=λj F=>getD_set_ne Aj (Ne.symm F);have L:HR l (λZ=>(b.setIfInBounds i Bp).getD Z Aj):=by
   intro j I F H e U B;show(b.setIfInBounds i Bp).getD e.on Aj=Bp;have H:(b.setIfInBounds i Bp).getD j Aj=Bp:=H;by_cases O:j=i;· subst O;have:I=o:=Abp (F.symm.trans x);subst this;exact getD_set_true (t e U B)
   ·rw[E j O]at H;exact getD_set_true (r j I F H e U B)
  have s:AD (λj=>(b.setIfInBounds i Bp).getD j Aj) l.length=f:=by have:=Ws (p:=λj=>b.getD j Aj) (q:=λj=>(b.setIfInBounds i Bp).getD j Aj) y C M E;omega
  have X:I_ (λj=>b.getD j Aj) i=λj=>(b.setIfInBounds i Bp).getD j Aj:=by
   funext j;unfold I_;by_cases e:j=i;· subst e;rw[if_pos rfl];exact M.symm
   ·rw[if_neg e];exact(E j e).symm
  have u:=step (λj=>b.getD j Aj) a w i o x C r (Tm B r x t) (λj I F hp=>Tm B r F (r j I F hp)) T;rw[X]at u;refine wpOp_mono (λa' w' V=>ih _ a' w' S L s V) ?_;unfold wpOp;simp only[z];split;· rename_i Y;rw[if_pos Y]at u;exact .inl u
  ·rename_i Y;rw[if_neg Y]at u;exact u
theorem L3{id:Nat}(q:P.follows .mixedOrders=Bp)(n:GR 0 l=Bp)
  (step:∀p a w i o,l[i]?=Ac o->p i=Aj->HR l p->(∀j,(UT l i).testBit j=Bp->p j=Bp)->(∀j t,l[j]?=Ac t->p j=Bp->∀m,(UT l j).testBit m=Bp->p m=Bp)->J p a w->
   if fp o (yielded l.toArray a.tmps)then o.wp P a w (J (I_ p i)) Q else J (I_ p i) (a.put o.dst undef) w)
  (e:∀p a w,(∀i,i<l.length->p i=Bp)->J p a w->Q .normal a w) {a:Act} {w:IU} (h:J (λ_=>Aj) a {w with drawn:=w.drawn+1}):
  (Code.region id l.toArray Bp).wp P Q a w:=by
 refine wp_region_any q ?_;have f:(λi=>(Alw l.length Aj).getD i Aj)=λ_=>Aj:=funext λi=>getD_replicate_false _ _;have:=jr n step e l.length (Alw l.length Aj) a {w with drawn:=w.drawn+1} (by simp) (λj o _ k=>by rw[f]at k;cases k)
  (by
   rw[f];have:∀m,AD (λ_=>Aj) m=m:=by
    intro m;induction m with
    |zero=>rfl
    |succ m s=>
     have r:AD (λ_=>Aj) (m+1)=AD (λ_=>Aj) m+1:=rfl;rw[r,s]
   exact this _)
  (by rw[f];exact h);simpa using this
end
end
section
variable{p q:Nat->Bool}
abbrev Rec:=Nat->BZ
def zE(ρ:Rec)(i:Nat)(v:BZ):Rec:=λj=>match Hh j i with
 |true=>v
 |false=>ρ j
def B_(l:List Nat)(r:Nat):Bool:=l.any (Hh r)
theorem AU{l:List Nat}{r:Nat} :B_ l r=Bp↔r∈l:=by
 unfold B_;rw[Aca];constructor;· rintro⟨x,h,e⟩;have:=AI e;subst this;exact h
 ·intro h;exact⟨r,h,by simp⟩
theorem Q7(ρ:Rec)(i:Nat)(v:BZ):zE ρ i v i=v:=by simp[zE]
def word(p:Nat->Bool)(i:Nat):BitVec 64:=(BitVec.ofBoolListLE ((aT 64).map λj=>p (64*i+j))).cast (by simp)
theorem G7(p:Nat->Bool)(i j:Nat):(word p i).getLsbD j=(Dl (j<64)&&p (64*i+j)):=by
 simp only[word,BitVec.getLsbD_cast,BitVec.getLsbD_ofBoolListLE];by_cases h:j<64;· simp[h]
 ·simp[h]
def NU(p:Nat->Bool):Array BZ:= #[K0 (word p 0),K0 (word p 1),K0 (word p 2),K0 (word p 3)]
def bs(p:Nat->Bool):BZ:= .agg (NU p)
theorem WO(p:Nat->Bool)(i:Nat)(h:i<4):(NU p)[i]?=Ac (K0 (word p i)):=by
 unfold NU;match i,h with
 |0,_=>rfl
 |1,_=>rfl
 |2,_=>rfl
 |3,_=>rfl
theorem Yq(h:∀x,x<256->p x=q x):NU p=NU q:=by
 have e:∀i,i<4->word p i=word q i:=λi a=>by apply Alq;intro j b;rw[G7,G7,h _ (by omega)]
 unfold NU;rw[e 0 (by omega),e 1 (by omega),e 2 (by omega),e 3 (by omega)]
theorem fk{a b:BitVec 64}(h:K0 a=K0 b):a=b:=by simp only[K0,BZ.int.injEq,true_and]at h;exact BitVec.eq_of_toNat_eq (by omega)
theorem jl(h:NU p=NU q):∀x,x<256->p x=q x:=by intro x e;have b:=WO p (x/64) (by omega);rw[h,WO q (x/64) (by omega)]at b;have c:=fk (Abp b);have a:=G7 p (x/64) (x %64);rw[<-c,G7]at a;have d:x %64<64:=Nat.mod_lt _ (by decide);simp only[d,decide_true,Ahi]at a;rw[show 64*(x/64)+x %64=x by omega]at a;exact a.symm
theorem Yn:bs p=bs q↔∀x,x<256->p x=q x:=
 ⟨λh=>jl (by unfold bs at h;injection h),λh=>by unfold bs;rw[Yq h]⟩
theorem jk(p:Nat->Bool):∀u∈NU p,u.oneCell'=Bp:=by intro u a;simp[NU]at a;rcases a with rfl|rfl|rfl|rfl<;>rfl
attribute [irreducible] word
end
section
variable {P : GN}
section
variable{e:Gq}{k:Lo}
theorem FZ{d:Nat}{e:Gq}{k:Lo}(c:P.underlying e=Ac (.int k))(h1:P.cellsOf e=1)(w:IU)(xs ys:List Int):∀(is:List Nat),(∀i∈is,i<xs.length/\i<ys.length)->
  (Op.eqItems (d+1) e (P.cellsOf e) (xs.map (BZ.int k)).toArray (ys.map (BZ.int k)).toArray is).run P w= .ok (is.all λi=>xs[i]?==ys[i]?) w
 | [],_=>by simp[Op.eqItems]
 |i::is,h=>by
  have b:=h i (by simp);have l:=FZ (d:=d) c h1 w xs ys is (λj g=>h j (by simp[g]));have m:(part e (xs.map (BZ.int k)).toArray (i*P.cellsOf e)).run P w= .ok (.int k xs[i]) w:=by simp[part,Cg c,DL,h1,b.1]
  have n:(part e (ys.map (BZ.int k)).toArray (i*P.cellsOf e)).run P w= .ok (.int k ys[i]) w:=by simp[part,Cg c,DL,h1,b.2]
  have o:(ns (d+1) e (.int k xs[i]) (.int k ys[i])).run P w= .ok (xs[i]==ys[i]) w:=by simp[ns,AX c]
  simp only[Op.eqItems,mZ,m,n,o,iP];by_cases f:xs[i]=ys[i];· simp only[f,beq_self_eq_true,Ahj,Adx,if_false,l,List.all_cons];simp[b.1,b.2,f]
  ·simp[b.1,b.2,f]
theorem Oi{t:Gq}{n:Nat}{bytes:Nat}{z:BZ}(ht:P.underlying t=Ac (.array n e))(f:P.underlying e=Ac (.int k))(m:TI P e 1 bytes z)(w:IU)(xs ys:List Int)(o:xs.length=n)(p:ys.length=n):
  (qn t (.agg (xs.map (BZ.int k)).toArray) (.agg (ys.map (BZ.int k)).toArray)).run P w= .ok (Dl (xs=ys)) w:=by
 obtain⟨i,b,l,_⟩:=m.ex;have c:P.cellsOf e=1:=by simp[GN.cellsOf,b,l]
 have key:∀d,(ns (d+1+1) t (.agg (xs.map (BZ.int k)).toArray) (.agg (ys.map (BZ.int k)).toArray)).run P w= .ok (Dl (xs=ys)) w:=λd=>by
  rw[run_equalIn_array w (d+1) _ _ ht b,FZ f c w xs ys _ (λi b=>by have:=Abg.1 b;omega)];congr 1;rw[Aen];simp only[No,Abg,beq_iff_eq,decide_eq_true_iff];constructor
  ·intro h;apply Agc;intro j;by_cases g:j<n;· exact h j g
   ·rw[Aco (by omega),Aco (by omega)]
  ·intro h j _;rw[h]
 unfold qn Alu;exact key 9998
end
end
section
variable {P : GN} {T : Gq} {E : DQ -> Option BZ} {H : Hp} {O : List Aw} {x y : DQ} {Tx Ty e : Gq} {k : Lo} {n bytes : Nat} {z : BZ}
section
variable{p q:Nat->Bool}
theorem Ajc{xs ys:List Int}(j:P.eqGuardType P.depth Tx=Aj)(ht:P.underlying Tx=Ac (.array n e))(i:P.underlying e=Ac (.int k))(q:TI P e 1 bytes z)(m:E x=Ac (.agg (xs.map (BZ.int k)).toArray))(p:E y=Ac (.agg (ys.map (BZ.int k)).toArray))(h1:xs.length=n)(h2:ys.length=n):
  Au P (.binOp .eql Tx x y Ty) T E H O (.bool (Dl (xs=ys))):= .Ao λa w o l _ c _=>by
 have f:=Oi ht i q w xs ys h1 h2;have g:=run_eqGuard_agg w .eql Tx x y (xs.map (BZ.int k)).toArray (ys.map (BZ.int k)).toArray j;have h:(binOp .eql Tx (.agg (xs.map (BZ.int k)).toArray) (.agg (ys.map (BZ.int k)).toArray)).run P w= .ok (.bool (Dl (xs=ys))) w:=by show(do pure (.bool (<-qn Tx _ _)):Sem BZ).run P w=_;simp[f]
 simp only[Kt,l,mZ,c x _ m,c y _ p,g,iP,h,vS]
theorem Ajd{xs ys:List Int}(j:P.eqGuardType P.depth Tx=Aj)(ht:P.underlying Tx=Ac (.array n e))(i:P.underlying e=Ac (.int k))(q:TI P e 1 bytes z)(m:E x=Ac (.agg (xs.map (BZ.int k)).toArray))(p:E y=Ac (.agg (ys.map (BZ.int k)).toArray))(h1:xs.length=n)(h2:ys.length=n):
  Au P (.binOp .neq Tx x y Ty) T E H O (.bool (!decide (xs=ys))):= .Ao λa w o l _ c _=>by
 have f:=Oi ht i q w xs ys h1 h2;have g:=run_eqGuard_agg w .neq Tx x y (xs.map (BZ.int k)).toArray (ys.map (BZ.int k)).toArray j;have h:(binOp .neq Tx (.agg (xs.map (BZ.int k)).toArray) (.agg (ys.map (BZ.int k)).toArray)).run P w= .ok (.bool (!decide (xs=ys))) w:=by show(do pure (.bool (!(<-qn Tx _ _))):Sem BZ).run P w=_;simp[f]
 simp only[Kt,l,mZ,c x _ m,c y _ p,g,iP,h,vS]
def eY(p q:Nat->Bool):Bool:=(aT 256).all λx=>p x==q x
theorem iE:eY p q=Bp↔∀x,x<256->p x=q x:=by simp[eY,No]
theorem qY:eY p q=Bp↔bs p=bs q:=by rw[iE,Yn]
def Lk(p:Nat->Bool):List Int:=[((word p 0).toNat:Int),((word p 1).toNat:Int),((word p 2).toNat:Int),((word p 3).toNat:Int)]
theorem Tg:Dl (Lk p=Lk q)=eY p q:=by
 rw[Aen,decide_eq_true_iff,qY];have:∀p,bs p= .agg ((Lk p).map (BZ.int .u64)).toArray:=λp=>rfl;rw[this,this];constructor;· intro h;rw[h]
 ·intro h;have c:=congrArg (λv:BZ=>match v with| .agg a=>a.toList|_=>[]) h;simpa [Lk]using c
theorem Aip(b:P.eqGuardType P.depth Tx=Aj)(ht:P.underlying Tx=Ac (.array 4 e))(a:P.underlying e=Ac (.int .u64))(f:TI P e 1 bytes z)(c:E x=Ac (.agg (NU p)))(d:E y=Ac (.agg (NU q))):
  Au P (.binOp .eql Tx x y Ty) T E H O (.bool (eY p q)):=by
 have:=Ajc (P:=P) (T:=T) (H:=H) (O:=O) (Ty:=Ty) (xs:=Lk p) (ys:=Lk q) b ht a f c d rfl rfl;rwa [Tg]at this
theorem Ail(b:P.eqGuardType P.depth Tx=Aj)(ht:P.underlying Tx=Ac (.array 4 e))(a:P.underlying e=Ac (.int .u64))(f:TI P e 1 bytes z)(c:E x=Ac (.agg (NU p)))(d:E y=Ac (.agg (NU q))):
  Au P (.binOp .neq Tx x y Ty) T E H O (.bool (!eY p q)):=by
 have:=Ajd (P:=P) (T:=T) (H:=H) (O:=O) (Ty:=Ty) (xs:=Lk p) (ys:=Lk q) b ht a f c d rfl rfl;rwa [Tg]at this
end
end
def idx{α:Type}(l:List α)(i:Int):Option α:=if 0<=i then l[i.toNat]? else C7
def Ag{α:Type}(p:Prop) [Decidable p](k:Option α):Option α:=if p then k else C7
def Ab{α β:Type}(x:Option α)(k:α->Option β):Option β:=match x with
 |some a=>k a
 |none=>C7
def Ad{X R:Type} :Nat->(X->(X->Option R)->Option R)->X->Option R
 |0,_,_=>C7
 |n+1,b,x=>b x (Ad n b)
section
variable {α β X R : Type}
section
variable{x:α}{l:List α}{i:Int}
theorem AE{p:Prop} [Decidable p]{k:Option α}{r:α}(h:Ag p k=Ac r):p/\k=Ac r:=by
 unfold Ag at h;split at h;· exact⟨‹p›,h⟩
 ·cases h
theorem Bi{x:Option α}{k:α->Option β}{r:β}(h:Ab x k=Ac r):∃a,x=Ac a/\k a=Ac r:=by
 cases x with
 |none=>cases h
 |some a=>exact⟨a,rfl,h⟩
theorem Um{n:Nat}{b:X->(X->Option R)->Option R}{x:X}{r:R}(h:Ad n b x=Ac r):∃m,n=m+1/\b x (Ad m b)=Ac r:=by
 cases n with
 |zero=>cases h
 |succ m=>exact⟨m,rfl,h⟩
theorem Dg(h:idx l i=Ac x):(0<=i/\i<(l.length:Nat))/\l[i.toNat]?=Ac x:=by
 unfold idx at h;split at h;· have:=(IT.1 h).1;exact⟨⟨by assumption,by omega⟩,h⟩
 ·cases h
theorem br(h:idx l i=Ac x):0<=i/\i<(l.length:Nat):=(Dg h).1
end
end
structure Cd(α:Type)where
 sz:Nat
 BP:Hp->α->List BZ->Prop
 len:∀ {H a cs},BP H a cs->cs.length=sz
 mono:∀ {H H' a cs},H.le H'->BP H a cs->BP H' a cs
 one:∀ {H a cs},BP H a cs->∀u∈cs,u.oneCell'=Bp
def A2{α:Type}(c:Cd α)(H:Hp):List α->List BZ->Prop
 | [],xs=>xs=[]
 |a::l,xs=> ∃cs ys,xs=cs++ys/\c.BP H a cs/\A2 c H l ys
structure G4{α:Type}(c:Cd α)(H:Hp)(l:List α)(v:BZ):Prop where
 ex:∃xs,Sl H v c.sz l.length xs/\A2 c H l xs
 le:l.length<=9223372036854775807
def rG:Cd Int where
 sz:=1
 BP _ n cs:=cs=[.int .i64 n]
 len h:=by subst h;rfl
 mono _ h:=h
 one h:=by subst h;intro u hu;simp at hu;subst hu;rfl
def cU8:Cd Int where
 sz:=1
 BP _ n cs:=cs=[.int .u8 n]/\0<=n/\n<=255
 len h:=by rw[h.1];rfl
 mono _ h:=h
 one h:=by rw[h.1];intro u hu;simp at hu;subst hu;rfl
def cB:Cd Bool where
 sz:=1
 BP _ b cs:=cs=[.bool b]
 len h:=by subst h;rfl
 mono _ h:=h
 one h:=by subst h;intro u hu;simp at hu;subst hu;rfl
abbrev Aq:=List UInt8
def sv(s:Aq):BZ:= .string ⟨⟨s⟩⟩
def cS:Cd Aq where
 sz:=1
 BP _ s cs:=cs=[sv s]
 len h:=by subst h;rfl
 mono _ h:=h
 one h:=by subst h;intro u hu;simp at hu;subst hu;rfl
abbrev yM:=Nat->Bool
def cBs:Cd yM where
 sz:=4
 BP _ p cs:=cs=(NU p).toList
 len h:=by subst h;rfl
 mono _ h:=h
 one h:=by subst h;intro u hu;exact jk _ u (by simpa using hu)
def cP{α β:Type}(c:Cd α)(d:Cd β):Cd (α×β)where
 sz:=c.sz+d.sz
 BP H a cs:= ∃c1 c2,cs=c1++c2/\c.BP H a.1 c1/\d.BP H a.2 c2
 len h:=by obtain⟨c1,c2,rfl,h1,h2⟩:=h;simp[c.len h1,d.len h2]
 mono hl h:=by obtain⟨c1,c2,rfl,h1,h2⟩:=h;exact⟨c1,c2,rfl,c.mono hl h1,d.mono hl h2⟩
 one h:=by
  obtain⟨c1,c2,rfl,h1,h2⟩:=h;intro u hu;rcases AS.1 hu with hu|hu;· exact c.one h1 u hu
  ·exact d.one h2 u hu
section
variable {α : Type} {c : Cd α} {H H' : Hp}
section
variable{l:List α}{v:BZ}{xs:List BZ}{x:α}
theorem A2.len:∀ {l:List α} {xs:List BZ},A2 c H l xs->xs.length=l.length*c.sz
 | [],xs,h=>by simp only[A2]at h;subst h;simp
 |a::l,xs,⟨f,g,e,b,d⟩=>by subst e;simp[c.len b,A2.len d,Adp,Nat.add_comm]
theorem A2.mono(a:H.le H'):∀ {l:List α} {xs:List BZ},A2 c H l xs->A2 c H' l xs
 | [],_,h=>h
 |_::_,_,⟨b,g,e,d,f⟩=>⟨b,g,e,c.mono a d,A2.mono a f⟩
theorem A2.one:∀ {l:List α} {xs:List BZ},A2 c H l xs->∀u∈xs,u.oneCell'=Bp
 | [],xs,h,u,a=>by simp only[A2]at h;subst h;cases a
 |_::_,_,⟨f,g,e,b,d⟩,u,a=>by
  subst e;rcases AS.1 a with a|a;· exact c.one b u a
  ·exact A2.one d u a
theorem A2.app:∀ {l d:List α} {xs a:List BZ},A2 c H l xs->A2 c H d a->A2 c H (l++d) (xs++a)
 | [],_,xs,_,h,b=>by simp only[A2]at h;subst h;simpa using b
 |_::_,_,_,_,⟨f,j,e,g,i⟩,b=>by subst e;exact⟨f,_,by rw[Aaj],g,A2.app i b⟩
theorem A2.get:∀ {l:List α} {xs:List BZ} {i:Nat} {x:α},A2 c H l xs->l[i]?=Ac x->∃cs,c.BP H x cs/\(∀j u,cs[j]?=Ac u->xs[i*c.sz+j]?=Ac u)/\cs=(xs.drop (i*c.sz)).take c.sz
 | [],_,_,_,_,h=>by simp at h
 |a::l,_,0,x,⟨cs,p,e,b,g⟩,h=>by
  simp at h;subst h;subst e;refine⟨cs,b,λj u d=>?_,?_⟩;· have:=(IT.1 d).1;rw[Aeh,Abl,Pe this];exact d
  ·rw[Aeh,Aff,Ach (by rw[c.len b];exact Aae _),Abm (by rw[c.len b];exact Aae _)]
 |a::l,_,i+1,x,⟨cs,p,e,b,g⟩,h=>by
  subst e;obtain⟨f,m,n,o⟩:=A2.get g (by simpa using h);have e:(i+1)*c.sz=cs.length+i*c.sz:=by rw[c.len b,Adp];omega
  refine⟨f,m,λj u d=>?_,?_⟩;· rw[e,Ado,Aab (by omega),Acg];exact n j u d
  ·rw[e,Acr,Aay (by omega),Acg,Acd];exact o
theorem A2.set:∀ {l:List α} {xs:List BZ} {i:Nat} {y:α} {vs:List BZ},A2 c H l xs->i<l.length->c.BP H y vs->A2 c H (l.set i y) (Ct xs (i*c.sz) vs)
 | [],_,_,_,_,_,h,_=>by simp at h
 |a::l,_,0,y,vs,⟨b,j,e,d,g⟩,_,f=>by subst e;refine⟨vs,j,?_,f,g⟩;unfold Ct;rw[Aeh,Aee,Acd,Abl,Acr,Aay (by rw[c.len d,c.len f];exact Aae _),c.len d,c.len f];simp
 |a::l,_,i+1,y,vs,⟨b,j,e,d,g⟩,k,f=>by
  subst e;refine⟨b,Ct j (i*c.sz) vs,?_,d,A2.set g (by simpa using k) f⟩;have e:(i+1)*c.sz=b.length+i*c.sz:=by rw[c.len d,Adp];omega
  unfold Ct;rw[e,Adw,Abm (by omega),Acg,Ado,Acr,Aay (by omega:b.length<=b.length+(i*c.sz+vs.length)),Acg];simp
theorem fD(xs:List BZ)(k off s:Nat)(cs vs:List BZ)(f:cs=(xs.drop k).take s)(b:cs.length=s)(l:off+vs.length<=s):Ct xs (k+off) vs=Ct xs k (Ct cs off vs):=by
 subst f;have m:s<=(xs.drop k).length:=by rw[Aba]at b;omega
 have j:(Ct ((xs.drop k).take s) off vs).length=s:=by rw[II _ _ _ (by rw[b];exact l)];exact b
 unfold Ct at*;rw[j];have g:xs.take (k+off)=xs.take k++(xs.drop k).take off:=by rw[List.take_add]
 have h:((xs.drop k).take s).take off=(xs.drop k).take off:=by rw[Agy,Adh (by omega)]
 have i:xs.drop (k+off+vs.length)=((xs.drop k).take s).drop (off+vs.length)++xs.drop (k+s):=by
  have:xs.drop (k+off+vs.length)=(xs.drop k).drop (off+vs.length):=by rw[Ade];congr 1;omega
  rw[this];have e:xs.drop k=(xs.drop k).take s++xs.drop (k+s):=by have:=(Acf s (xs.drop k)).symm;rw[Ade]at this;exact this
  conv=>lhs;rw[e]
  rw[Acr,b];have:off+vs.length-s=0:=by omega
  rw[this,Aff]
 rw[g,h,i];simp
theorem A2.part{i off:Nat}{y:α}{cs vs:List BZ}(h:A2 c H l xs)(f:l[i]?=Ac x)(b:cs=(xs.drop (i*c.sz)).take c.sz)(a:cs.length=c.sz)(e:off+vs.length<=c.sz)(g:c.BP H y (Ct cs off vs)):
  A2 c H (l.set i y) (Ct xs (i*c.sz+off) vs):=by
 rw[fD xs _ off c.sz cs vs b a e];exact h.set (IT.1 f).1 g
theorem A2.take:∀ {l:List α} {xs:List BZ} (m:Nat),A2 c H l xs->A2 c H (l.take m) (xs.take (m*c.sz))
 | [],xs,m,h=>by simp only[A2]at h;subst h;simp[A2]
 |a::l,xs,0,h=>by simp[A2]
 |a::l,_,m+1,⟨b,g,e,d,f⟩=>by subst e;refine⟨b,g.take (m*c.sz),?_,d,A2.take m f⟩;rw[show(m+1)*c.sz=b.length+m*c.sz by rw[c.len d,Adp];omega,Adw,Abm (by omega),Acg]
theorem Ahx{z:α}{zs:Array BZ}(j:c.BP H z zs.toList)(h0:0<c.sz):∀m,A2 c H (T8 m z) (madeCells zs (m*c.sz)).toList:=by
 have g:zs.size=c.sz:=by rw[<-c.len j];simp
 have key:∀m,(madeCells zs (m*c.sz)).toList=(T8 m zs.toList).flatten:=by
  intro m;apply Adm;· simp[madeCells,List.length_flatten,g]
  ·intro i k e;simp only[madeCells,Array.toList_map,Array.toList_range,List.getElem_map,List.getElem_range];have o:i<m*c.sz:=by simpa [madeCells]using k
   have:∀m i (h:i<m*c.sz) (e:i<(T8 m zs.toList).flatten.length),(T8 m zs.toList).flatten[i]=zs[i %zs.size]! :=by
    intro m;induction m with
    |zero=>intro i h;simp at h
    |succ m f=>
     intro i h e;simp only[List.replicate_succ,List.flatten_cons];by_cases b:i<zs.size;· rw[List.getElem_append_left (by simpa using b),Agg b];simp[b]
     ·rw[List.getElem_append_right (by simpa using b)];have l:i-zs.toList.length<m*c.sz:=by simp[g];rw[Adp]at h;omega
      rw[f _ l];have n:(i-zs.toList.length) %zs.size=i %zs.size:=by
       have:zs.size<=i:=by omega
       simp only[Ahh];conv=>rhs;rw[<-Nat.sub_add_cancel this,Nat.add_mod_right]
      rw[n]
   exact(this m i o e).symm
 intro m;rw[key];induction m with
 |zero=>exact rfl
 |succ m f=>exact⟨zs.toList,(T8 m zs.toList).flatten,by simp[List.replicate_succ],j,f⟩
theorem G4.mono(a:H.le H')(h:G4 c H l v):G4 c H' l v:=by obtain⟨⟨f,b,d⟩,e⟩:=h;exact⟨⟨f,b.mono a,d.mono a⟩,e⟩
theorem G4.sl(h:G4 c H l v):Tt v l.length:=by obtain⟨⟨e,a,b⟩,d⟩:=h;exact a.sl
theorem G4.one(h:G4 c H l v):v.oneCell'=Bp:=by rcases h.sl with⟨rfl,_⟩|⟨a,cap,rfl,_⟩<;>rfl
theorem G4.nil:G4 c H [] (.slice C7 0 0):=⟨⟨[],Sl.nil H _,rfl⟩,by simp⟩
theorem G4.get{i:Int}(h:G4 c H l v)(hi:idx l i=Ac x):∃cs,c.BP H x cs/\∀j u,cs[j]?=Ac u->DV H (AL v (i.toNat*c.sz+j)) u:=by obtain⟨⟨k,d,e⟩,g⟩:=h;obtain⟨cs,a,b,_⟩:=e.get (Dg hi).2;exact⟨cs,a,λj u f=>d.cells _ u (b j u f)⟩
theorem G4.of{n:Nat}(h:Sl H v c.sz n xs)(b:n=l.length)(d:A2 c H l xs)(a:l.length<=9223372036854775807):G4 c H l v:=by subst b;exact⟨⟨xs,h,d⟩,a⟩
end
end
section
variable{α:Type}
def cL(c:Cd α):Cd (List α)where
 sz:=1
 BP H l cs:= ∃v,cs=[v]/\G4 c H l v
 len h:=by obtain⟨v,rfl,_⟩:=h;rfl
 mono hl h:=by obtain⟨v,e,h⟩:=h;exact⟨v,e,h.mono hl⟩
 one h:=by obtain⟨v,rfl,h⟩:=h;intro u hu;simp at hu;subst hu;exact h.one
def cA(n:Nat)(c:Cd α):Cd (List α)where
 sz:=n*c.sz
 BP H l cs:=l.length=n/\A2 c H l cs
 len h:=by rw[h.2.len,h.1]
 mono hl h:=⟨h.1,h.2.mono hl⟩
 one h:=h.2.one
end
section
variable {P : GN} {T : Gq} {E : DQ -> Option BZ} {H : Hp} {O : List Aw} {x : DQ} {t : Gq} {d : TypeDesc}
theorem Ajj{p u:BZ}(ht:P.underlying t=Ac d)(i:DL d=Aj)(e:E x=Ac p)(h:DV H p u):Au P (.load t x) T E H O u:= .Ao λm w o k _ j l=>by obtain⟨a,f,g⟩:=h.cell l;rw[f]at e;simp[Kt,k,j x _ e,zH,nz,Dj ht i g]
theorem Aio{v:BZ}{k bytes:Nat}{z:BZ}{vs:List BZ}(ht:P.underlying t=Ac d)(m:DL d=Bp)(f:TI P t vs.length bytes z)(h0:vs.isEmpty=Aj)(g:E x=Ac (AL v k))(l:∀j u,vs[j]?=Ac u->DV H (AL v (k+j)) u):
  Au P (.load t x) T E H O (.agg vs.toArray):= .Ao λr w o p _ n q=>by
 obtain⟨a,h,i⟩:=sF.cells q (v:=v) (k:=k) (by intro e;subst e;simp at h0) l;rw[h]at g;simp[Kt,p,n x _ g,zH,nz,Dk (w:=w) ht m f i]
end
section
variable {P : GN} {Q : Exit -> Act -> IU -> Prop} {n : Nat} {L L' : List (Nat × BZ)} {H : Hp} {O : List Aw}
section
variable{w:IU}
def RI(a:List Nat)(k:Nat)(O:List Aw):List Aw:=a.filterMap (O[·]?)++O.drop k
def Ci:List Nat->Bool
 | []=>Bp
 |k::a=> !B_ a k&&Ci a
theorem K9:∀ {d:List Nat},Ci d=Bp->∀(i j a:Nat),d[i]?=Ac a->d[j]?=Ac a->i=j
 | [],_,i,_,a,h,_=>by simp at h
 |k::d,e,i,j,a,b,c=>by
  simp only[Ci,AT,Aec]at e;have f:∀q,d[q]?=Ac k->False:=λq g=>by have:=AU.2 (Aai g);rw[e.1]at this;cases this
  cases i with
  |zero=>
   cases j with
   |zero=>rfl
   |succ j=>simp at b c;subst b;exact(f j c).elim
  |succ i=>
   cases j with
   |zero=>simp at b c;subst c;exact(f i b).elim
   |succ j=>rw[K9 e.2 i j a (by simpa using b) (by simpa using c)]
theorem SH.RI(a:List Nat)(k:Nat)(p:(a.all λq=>aX q k)=Bp)(u:Ci a=Bp)(A:k<=O.length)(h:SH w H O):SH w H (RI a k O):=by
 have m:∀q∈a,q<O.length:=λq b=>by have:=No.1 p q b;simp at this;omega
 have g:∀q∈a,q<k:=λq b=>by have:=No.1 p q b;simpa using this
 have o:∀a:List Nat,(∀q∈a,q<O.length)->a.filterMap (O[·]?)=a.map (λq=>O.getD q .emp):=by
  intro a;induction a with
  |nil=>intro _;rfl
  |cons q a v=>
   intro h;have b:=h q (by simp);rw[Adf,GB b,Aas,v λx s=>h x (by simp[s])];simp[b]
 have t:=o a m;refine h.pick (λi=>if i<a.length then a.getD i 0 else k+(i-a.length)) (λi r l=>?_) (λi j f z e=>?_)
 ·unfold GK.RI at l;rw[t]at l;by_cases f:i<a.length;· rw[Pe (by simpa using f)]at l;have b:a[i]<O.length:=m _ (AN f);simp only[Abz,GB f,Adg]at l;simp only[f,if_true,Aaa,GB f,Ack];rw[Aaa,GB b]at l;rw[GB b];exact l
  ·rw[Aab (by simpa using f)]at l;simp only[f,if_false];simpa using l
 ·by_cases c:i<a.length<;>by_cases d:j<a.length;· rw[if_pos c,if_pos d]at e;refine K9 u i j a[i] (by simp[c]) ?_;simp only[Aaa,GB c,GB d,Ack]at e;rw[GB d,e]
  ·rw[if_pos c,if_neg d]at e;have:=g _ (AN c);simp only[Aaa,GB c,Ack]at e;omega
  ·rw[if_neg c,if_pos d]at e;have:=g _ (AN d);simp only[Aaa,GB d,Ack]at e;omega
  ·rw[if_neg c,if_neg d]at e;omega
theorem SH.Oj(b:SH w H O){i size m:Nat}{v:BZ}{e:Gq}{xs:List BZ}(hi:O[i]?=Ac (.row v e size m xs)):m<=9223372036854775807:=by
 have h:=b.ok i _ hi;simp only[Aw.ok]at h;rcases h.2 with⟨rfl,rfl⟩|⟨g,cap,cur,rfl,_,_,c,a,_⟩;· omega
 ·simp only[maxLen]at a;omega
end
end
abbrev DW(n:Int):Prop:= -9223372036854775808<=n/\n<=9223372036854775807
abbrev F8(n:Int):Prop:=0<=n/\n<=255
abbrev Ah:Nat:=1099511627776
section
variable {P : GN} {T : Gq} {E : DQ -> Option BZ} {H : Hp} {O : List Aw} {x y : DQ}
section
variable{t:Gq}{b a s:Aq}{off:Nat}{i:Int}
theorem Au.nilCheck{b:Nat}(d:E x=Ac (ptr b off)):Au P (.nilCheck x) T E H O (ptr b off):= .Ao λa w o f _ e _=>by simp only[ptr]at d;simp[Kt,f,e x _ d,ptr]
theorem Ain(ht:P.underlying t=Ac .string)(b:E x=Ac (sv s)):Au P (.call {callee:= .builtin .len,args:= #[x],argTypes:= #[t]}) T E H O (.int .i64 ((s.length:Nat):Int)):=by have:=Ako (P:=P) (T:=T) (H:=H) (O:=O) ht b;exact this
def Ey(s:Aq)(i:Int):Option Int:=if 0<=i then(s[i.toNat]?).map (λb=>(b.toNat:Int))else C7
theorem hU{x:Int}(h:Ey s i=Ac x):(0<=i/\i<(s.length:Nat))/\0<=x/\x<=255:=by
 unfold Ey at h;split at h;· cases a:s[i.toNat]? with
  |none=>rw[a]at h;cases h
  |some b=>
   rw[a]at h;simp at h;have:=(IT.1 a).1;have:=b.toNat_lt;omega
 ·cases h
theorem Akb{k:Lo}{z:Int}(ht:P.underlying t=Ac .string)(e:E x=Ac (sv s))(f:E y=Ac (.int k i))(h:Ey s i=Ac z):Au P (.index t x y) T E H O (.int .u8 z):=by
 unfold Ey at h;split at h;· rename_i c;cases a:s[i.toNat]? with
  |none=>rw[a]at h;cases h
  |some b=>
   rw[a]at h;simp at h;subst h;exact Ahf ht e f c (by have d:=(IT.1 a).1;show ByteArray.mk (Array.mk s) |>.data[i.toNat]?=Ac b;simpa using a)
 ·cases h
theorem Kh(a:Aq):(ByteArray.mk (Array.mk a)).toList=a:=by rw[ByteArray.toList_eq]
theorem Ahr{Ty:Gq}(ht:P.underlying t=Ac .string)(f:E x=Ac (sv a))(g:E y=Ac (sv b)):Au P (.binOp .eql t x y Ty) T E H O (.bool (Dl (a=b))):= .Ao λi w o e _ d _=>by
 have h:(a==b)=Dl (a=b):=by rw[Aen];simp
 simp only[sv]at*;simp[Kt,e,d x _ f,d y _ g,eqGuard,binOp,wV,Kh,h]
theorem Akd{Ty:Gq}(ht:P.underlying t=Ac .string)(f:E x=Ac (sv a))(g:E y=Ac (sv b)):Au P (.binOp .neq t x y Ty) T E H O (.bool (!decide (a=b))):= .Ao λi w o e _ d _=>by
 have h:(a==b)=Dl (a=b):=by rw[Aen];simp
 simp only[sv]at*;simp[Kt,e,d x _ f,d y _ g,eqGuard,binOp,wV,Kh,bne,h]
theorem Ahq{Ty:Gq}(f:E x=Ac (sv a))(g:E y=Ac (sv b)):Au P (.binOp .lss t x y Ty) T E H O (.bool (Op.bytesLess a b)):= .Ao λh w o e _ d _=>by simp only[sv]at*;simp[Kt,e,d x _ f,d y _ g,eqGuard,binOp,wV,Kh]
theorem Akl{Ty:Gq}(k:E x=Ac (sv a))(l:E y=Ac (sv b))(h:a.length+b.length<=Ah):Au P (.binOp .add t x y Ty) T E H O (sv (a++b)):= .Ao λm w o j _ d _=>by
 have g:¬(((ByteArray.mk (Array.mk a)).size+(ByteArray.mk (Array.mk b)).size:Nat):Int)>Lo.i64.max:=by have e:(ByteArray.mk (Array.mk a)).size=a.length:=rfl;have f:(ByteArray.mk (Array.mk b)).size=b.length:=rfl;rw[e,f];simp[Lo.max,Lo.signed,Lo.bits,Ah]at*;omega
 have i:ByteArray.mk (Array.mk a)++ByteArray.mk (Array.mk b)=ByteArray.mk (Array.mk (a++b)):=by apply ByteArray.ext;rw[ByteArray.data_append];simp
 simp only[sv]at*;simp only[Kt,j,d x _ k,d y _ l,eqGuard,binOp,wV,if_neg g,i];simp
theorem Aje{d:TypeDesc}{B i bytes:Nat}{z:BZ}{cs:Array BZ}{l:Gq}{f:Nat×Nat}{vs:List BZ}(ht:P.underlying t=Ac d)(g:DL d=Bp)(c:TI P t vs.length bytes z)(k:E x=Ac (ptr B off))(hi:O[i]?=Ac (.Ai B (.cells cs l f)))
  (h:(cs.toList.drop off).take vs.length=vs):Au P (.load t x) T E H O (.agg vs.toArray):=
 Akm ht g c k hi λj u e=>by
  have b:=(IT.1 e).1;have:((cs.toList.drop off).take vs.length)[j]?=Ac u:=by rw[h];exact e
  rw[Aex]at this;simp[b]at this;simpa using this
end
end
section
variable {P : GN} {Q : Exit -> Act -> IU -> Prop} {n : Nat} {L : List (Nat × BZ)} {H : Hp} {O : List Aw} {ops : Array K7} {rest : List K7} {T : Gq}
variable {α : Type} {c : Cd α}
theorem SH.ZQ{w:IU}(b:SH w H O){i size m:Nat}{v:BZ}{e:Gq}{xs:List BZ}(hi:O[i]?=Ac (.row v e size m xs)):v.oneCell'=Bp:=by rcases(b.IL hi).1 with⟨rfl,_⟩|⟨a,cap,rfl,_⟩<;>rfl
theorem Agd{op:Op}{E:DQ->Option BZ}{R:BZ->Hp->List Aw->Prop}(r:Nat)(h:BM P op T E H O R)(s:∀v d b,R v d b->∃e size m xs,b[r]?=Ac (.row v e size m xs)):BM P op T E H O (λv d b=>R v d b/\v.oneCell'=Bp):=
 λa w o next Q i j k l p=>h a w o next Q i j k l λv u d b t f g=>by obtain⟨e,size,m,xs,q⟩:=s v d b f;exact p v u d b t ⟨f,g.ZQ q⟩ g
end
section
variable{v:BZ}
def placesOf(P:GN)(t:Gq):Option (List (Nat×Nat)):=
 match P.underlying t with
 |some (.struct fs)=>fs.toList.mapM λf=>(P.info? f.type).map λi=>(f.offset,i.size)
 |_=>C7
theorem run_places{P:GN} :∀(l:List Field) (ps:List (Nat×Nat)),(l.mapM λf=>(P.info? f.type).map λi=>(f.offset,i.size))=Ac ps->
  ∀w,(l.mapM λf=>do pure (f.offset,<-q6 f.type):Sem (List (Nat×Nat))).run P w= .ok ps w
 | [],ps,h,w=>by simp at h;subst h;simp
 |f::l,ps,h,w=>by
  rw[List.mapM_cons]at h;cases a:P.info? f.type with
  |none=>simp[a]at h
  |some i=>
   cases b:(l.mapM λf=>(P.info? f.type).map λi=>(f.offset,i.size))with
   |none=>simp[a,b]at h
   |some e=>
    simp[a,b]at h;subst h;have d:=run_places l e b w;have c:(q6 f.type).run P w= .ok i.size w:=by simp[q6,typeInfo,a]
    rw[List.mapM_cons];simp only[mZ,c,iP,vS,d]
def Wf(place:Nat->Option (Nat×Nat))(cells:Array BZ):List (Nat×Array BZ)->Option (Array BZ)
 | []=>Ac cells
 |(i,v)::a=>
  match place i with
  |none=>C7
  |some (off,size)=>
   if v.size≠size||off+v.size>cells.size then C7
   else Wf place (v.zipIdx.foldl (λcs (c,j)=>cs.setIfInBounds (off+j) c) cells) a
theorem fill_eq(place:Nat->Option (Nat×Nat)):∀(vs:List (Nat×BZ)) (cells:Array BZ),ny place cells vs=Wf place cells (vs.map λp=>(p.1,p.2.cells))
 | [],_=>rfl
 |(i,v)::b,cells=>by
  simp only[ny,Aas,Wf];cases place i with
  |none=>rfl
  |some q=>
   obtain⟨off,size⟩:=q;simp only;split;· rfl
   ·exact fill_eq place b _
theorem rA(h:v.oneCell'=Bp):v.cells= #[v]:=by cases v<;>simp_all [BZ.cells,BZ.oneCell']
theorem rz(h:v.oneCell'=Bp):v.cells.toList=[v]:=by rw[rA h]
abbrev VC(vs:List (Nat×BZ))(vcs:List (Nat×Array BZ)):Prop:=vs.map (λp=>(p.1,p.2.cells))=vcs
end
section
variable {P : GN} {T : Gq} {E : DQ -> Option BZ} {H : Hp} {O : List Aw}
theorem Akk{t:Gq}{size bytes:Nat}{z:BZ}{zs cs:Array BZ}{ps:List (Nat×DQ)}{vs:List (Nat×BZ)}{places:List (Nat×Nat)}(a:placesOf P t=Ac places)(m:TI P t size bytes z)(e:z.cells=zs)
  {vcs:List (Nat×Array BZ)} (d:YZ E ps=Ac vs) (k:VC vs vcs) (c:Wf (places[·]?) zs vcs=Ac cs):Au P (.build t ps.toArray) T E H O (.agg cs):=by
 have i:ny (places[·]?) zs vs=Ac cs:=by rw[fill_eq,k];exact c
 unfold placesOf at a;split at a;· rename_i g j;refine Au.build (places:=places.toArray) j m e (λw=>?_) d (by simpa using i);have h:=run_places g.toList places a w;rw[Array.mapM_eq_mapM_toList];show((List.mapM (λf:Field=>(do pure (f.offset,<-q6 f.type):Sem (Nat×Nat))) g.toList)>>=λl=>pure l.toArray:Sem (Array (Nat×Nat))).run P w=_;rw[mZ,h];simp
 ·cases a
end
def Cu(v:BZ)(k:Nat):BZ:=match v with
 | .agg cs=>cs.getD k undef
 | .tuple vs=>vs.getD k undef
 |_=>undef
section
variable {P : GN} {T : Gq} {E : DQ -> Option BZ} {H : Hp} {O : List Aw} {ρ : Rec} {i : Nat}
theorem Ajv{t e:Gq}{len size bytes:Nat}{z:BZ}{zs cs:Array BZ}{ps:List (Nat×DQ)}{vs:List (Nat×BZ)}(r:Nat)(ht:P.underlying t=Ac (.slice e))(p:TI P e size bytes z)(n:z.cells=zs)
  (c:iT (len*size) 16777216=Bp) (h0:aX 0 (len*size)=Bp) (m:YZ E ps=Ac vs) (B:ny (λi=>Ac (i*size,size)) ((Array.range (len*size)).map (zs[· %zs.size]!)) vs=Ac cs) (f:cs.size=len*size) (hi:O[r]?=Ac .emp):
  BM P (.buildSlice t len ps.toArray) T E H O (λv q s=>q=H/\s=O.set r (.row (zE ρ i v i) e size len cs.toList)/\zE ρ i v i=v):= .Ao λa w o C _ A D=>by
 have u:(ps.toArray.map λ(i,x)=>(i,a.eval x)).toList=vs:=by simpa using HD A m
 have g:¬len*size>2^24:=by have:=Aax c;omega
 have j:¬len*size=0:=by simp at h0;omega
 refine⟨.slice (Ac ⟨w.heap.size,0,C7⟩) len len,w.alloc (.cells cs e),H,_,?_,Hp.le.refl H,⟨rf,by rw[Q7],by rw[Q7]⟩,D.set hi (IU.grownBy_alloc w _ _) ?_ (λb y=> .inr (by simp[Aw.has,BZ.ownBlock]at y;omega))⟩;· simp only[Kt,C,Instr.buildSlice,mZ,AX ht,iP,p.sizeOf,if_neg g,if_neg j,p.zeroValue,n,vS,u,B];simp[newRow]
 ·refine⟨by simpa using f, .inr ⟨w.heap.size,len,cs,rfl,Abh _,heap_alloc_new w _,Aae _,?_,f,?_⟩⟩;· have F:=Aax c;have G:len<=len*size:=Aey _ (Nat.pos_of_ne_zero λh=>by subst h;simp at j);simp only[maxLen];omega
  ·rw[Abm];simp[f]
end
section
variable {P : GN} {w : IU} {H : Hp} {O : List Aw} {f : FuncId} {vs : List BZ}
theorem Rq{i:Nat}{r:Aw}(hi:O[i]?=Ac r):O.set i r=O:=by
 apply Agc;intro j;rw[Adt];split;· rename_i e;subst e;have:=(IT.1 hi).1;simp[this]at hi⊢;exact hi.symm
 ·rfl
end
section
variable {H : Hp} {O : List Aw}
theorem Aiz{w:IU}{i b:Nat}{r:Aw}{o:Obj}(hi:O[i]?=Ac r)(u:r.block=Ac b)(y:H.at_ b=C7)(C:∀w':IU,w'.heap[b]?=Ac o->r.ok w')(h:SH w (H.put b o) (O.eraseIdx i)):SH w H O:=by
 have q:(H.put b o).at_ b=Ac o:=by simp[Hp.put]
 have v:∀c t,H.at_ c=Ac t->c≠b:=λc t d e=>by subst e;rw[y]at d;cases d
 have key:∀j s,O[j]?=Ac s->j≠i->∃k,(O.eraseIdx i)[k]?=Ac s/\k=(if j<i then j else j-1):=λj s a g=>by
  refine⟨_,?_,rf⟩;rw[Aej];by_cases f:j<i;· rw[if_pos f,if_pos f];exact a
  ·rw[if_neg f,if_neg (by omega),show j-1+1=j by omega];exact a
 have l:∀j s c,O[j]?=Ac s->j≠i->s.has c->c≠b/\H.at_ c=C7:=λj s c a g d=>by
  obtain⟨k,m,_⟩:=key j s a g;have f:=h.Iy k s c m d;refine⟨λe=>(by subst e;rw[q]at f;cases f),?_⟩;simp only[Hp.put]at f;split at f;· cases f
  ·exact f
 refine⟨λc t d=>h.MU c t ?_,h.os,h.output,h.tape,λj s a=>?_,λj s c a d=>?_,λj k s x c a n d p=>?_⟩;· simp only[Hp.put];rw[if_neg (v c t d)];exact d
 ·by_cases g:j=i;· subst g;rw[hi]at a;cases a;exact C w (h.MU b o q)
  ·obtain⟨k,m,_⟩:=key j s a g;exact h.ok k s m
 ·by_cases g:j=i;· subst g;rw[hi]at a;cases a;cases Afr u d;exact y
  ·exact(l j s c a g d).2
 ·by_cases g:j=i
  ·subst g;rw[hi]at a;cases a;cases Afr u d;by_cases m:k=j;· exact m.symm
   ·exact absurd rf (l k x b n m p).1
  ·by_cases m:k=i;· subst m;rw[hi]at n;cases n;cases Afr u p;exact absurd rfl (l j s b a g d).1
   ·obtain⟨D,f,z⟩:=key j s a g;obtain⟨E,B,A⟩:=key k x n m;have:=h.nd D E s x c f B d p;rw[z,A]at this;split at this<;>split at this<;>omega
end
end Go.GK
namespace Go.GK
open Go.Maps
def AB{κ β:Type} [DecidableEq κ]:List (κ×β)->κ->Option β
 | [],_=>C7
 |(k,v)::m,x=>if k=x then Ac v else AB m x
def Iv{κ β:Type} [DecidableEq κ]:List (κ×β)->κ->β->List (κ×β)
 | [],_,_=>[]
 |(k,v)::m,x,y=>if k=x then(k,y)::m else(k,v)::Iv m x y
def Bw{κ β:Type} [DecidableEq κ](m:List (κ×β))(x:κ)(y:β):List (κ×β):=match AB m x with
 |some _=>Iv m x y
 |none=>m++[(x,y)]
section
variable {κ β : Type} [DecidableEq κ]
theorem XW(m:List (κ×β))(x:κ)(y:β):(Iv m x y).length=m.length:=by
 induction m with
 |nil=>rfl
 |cons p m b=>obtain⟨k,v⟩:=p;simp only[Iv];split<;>simp[b]
theorem XX(m:List (κ×β))(x z:κ)(y:β):AB (Iv m x y) z=if z=x then(AB m x).map (λ_=>y)else AB m z:=by
 induction m with
 |nil=>simp[AB,Iv]
 |cons p m c=>
  obtain⟨k,v⟩:=p;simp only[Iv];by_cases h:k=x
  ·subst h;by_cases a:z=k;· subst a;simp[AB]
   ·have:¬k=z:=λe=>a e.symm;simp[AB,a,this]
  ·rw[if_neg h];simp only[AB];by_cases a:z=x;· subst a;simp[h,c]
   ·by_cases b:k=z;· subst b;simp[a]
    ·simp[b,c,a]
theorem XY(m:List (κ×β))(x z:κ)(y:β)(h:AB m x=C7):AB (m++[(x,y)]) z=if z=x then Ac y else AB m z:=by
 induction m with
 |nil=>
  by_cases a:z=x;· subst a;simp[AB]
  ·have:¬x=z:=λe=>a e.symm;simp[AB,a,this]
 |cons p m c=>
  obtain⟨k,v⟩:=p;simp only[AB]at h;split at h;· cases h
  ·rename_i d;simp only[Aer,AB];by_cases a:z=x;· subst a;simp[d,c h]
   ·by_cases b:k=z;· subst b;simp[a]
    ·simp[b,c h,a]
theorem Ia(m:List (κ×β))(x z:κ)(y:β):AB (Bw m x y) z=if z=x then Ac y else AB m z:=by
 unfold Bw;cases h:AB m x with
 |none=>exact XY m x z y h
 |some v=>rw[XX,h];rfl
theorem Kz(m:List (κ×β))(x:κ)(y:β):(Bw m x y).length=if(AB m x).isSome then m.length else m.length+1:=by
 unfold Bw;cases h:AB m x with
 |none=>simp
 |some v=>simp[XW]
end
section
variable{P:GN}{a:Gq}
structure NW(P:GN)(kt:Gq)(κ:Type)where
 val:κ->BZ
 lit:κ->Lit
 ok:κ->Prop
 keyed:Keyed P kt
 of:∀k,ok k->keyOf P kt (val k)=Ac (lit k)
 key:∀k,WideAt.IsKeyLit (lit k)
 inj:∀k k',lit k=lit k'->k=k'
theorem vu{n:Int}(h:DW n):(Lit.int .i64 n).wf=Bp:=by simp only[DW]at h;simp[Lit.wf,Lo.min,Lo.max,Lo.signed,Lo.bits];omega
def mkI(h:P.underlying a=Ac (.int .i64)):NW P a Int where
 val n:= .int .i64 n
 lit n:= .int .i64 n
 ok n:=DW n
 keyed:=int_keyed h
 of k hk:=keyOf_int_mk h (vu hk)
 key _:=trivial
 inj _ _ h:=by injection h
def mkS(h:P.underlying a=Ac .string):NW P a Aq where
 val s:=sv s
 lit s:= .string s
 ok s:=s.length<=Ah
 keyed:=string_keyed h
 of k hk:=by
  have:=Go.WideMaps.keyOf_string_mk (s:=⟨⟨k⟩⟩) h (by show k.length<=maxLen;simp only[Ah,maxLen]at*;omega);exact this
 key _:=trivial
 inj _ _ h:=by injection h
end
section
variable {P : GN} {T : Gq} {E : DQ -> Option BZ} {H : Hp} {O : List Aw}
theorem Au.makeFunc{fn:Fn}{fs cs:List DQ}{vf vc:List BZ}(h:NR E fs=Ac vf)(g:NR E cs=Ac vc):Au P (.makeFunc fn fs.toArray cs.toArray) T E H O (.func fn vf.toArray vc.toArray):= .Ao λa w o i _ d _=>by have e:=Ib (a:=a) d h;have f:=Ib (a:=a) d g;simp[Kt,i,Instr.makeFunc,e,f]
theorem Ajy{x:DQ}{f:FuncId}{first caps:List BZ}{args:List DQ}{vs:List BZ}{tys:Array Gq}{R:BZ->Hp->List Aw->Prop}(d:TM P f)(s:E x=Ac (.func (.func f) first.toArray caps.toArray))(n:NR E args=Ac vs)(ht:Ts P f (first++vs++caps) H O R):BM P (.call {callee:= .value x,args:=args.toArray,argTypes:=tys}) T E H O R:=λa w o next Q p _ g r k=>by
 have q:(Kt a.eval o).run P w= .ok (.enter f (first++vs++caps).toArray) w:=by have:=d.run (first++vs++caps).toArray w;simp[Kt,p,resolve,q8,g x _ s,invoke,Ib g n]at this⊢;rw[this]
 unfold K7.wp;rw[q];refine(ht w r).mono ?_;rintro e t ⟨v,h,i,rfl,j,l,m⟩;exact k v t h i j m l
end
end Go.GK
namespace Go.GK
def cBy:Cd UInt8 where
 sz:=1
 BP _ b cs:=cs=[.int .u8 (b.toNat:Nat)]
 len h:=by subst h;rfl
 mono _ h:=h
 one h:=by subst h;intro u hu;simp at hu;subst hu;rfl
theorem V0{H:Hp} :∀ {l:Aq} {xs:List BZ},A2 cBy H l xs↔xs=Lib.byteCells l
 | [],xs=>Iff.rfl
 |b::l,xs=>by
  constructor;· rintro⟨c,f,rfl,d,e⟩;rw[show c=[.int .u8 (b.toNat:Nat)]from d,V0.1 e];rfl
  ·intro h;exact⟨[.int .u8 (b.toNat:Nat)],Lib.byteCells l,h,rfl,V0.2 rfl⟩
section
variable {P : GN} {T : Gq} {E : DQ -> Option BZ} {H : Hp} {O : List Aw}
section
variable{x y:DQ}{e:Gq}{j:TypeInfo}{t:Gq}{b i:Nat}{src dst:Gq}{cs:Array BZ}{v:BZ}{pt it:Gq}
theorem Ake{Ty:Gq}(i:P.underlying t=Ac (.pointer e))(f:P.info? e=Ac j)(k:E x=Ac (.pointer C7))(l:E y=Ac (.pointer C7)):Au P (.binOp .eql t x y Ty) T E H O (.bool Bp):= .Ao λa w o g _ c _=>by
 have h:(binOp .eql t (.pointer C7) (.pointer C7)).run P w= .ok (.bool Bp) w:=by
  have h:∀d:Nat,(ns (d+1) t (.pointer C7) (.pointer C7)).run P w= .ok Bp w:=λd=>by simp[ns,AX i,sizeOf,typeInfo,f,sameAddr]
  simp only[binOp];show(do pure (.bool (<-qn t _ _)):Sem BZ).run P w=_;unfold qn Alu;simp[h 9999]
 simp[Kt,g,c x _ k,c y _ l,eqGuard,h]
theorem Akq{Ty:Gq}{a:Addr}(i:P.underlying t=Ac (.pointer e))(f:P.info? e=Ac j)(k:E x=Ac (.pointer (Ac a)))(l:E y=Ac (.pointer C7)):Au P (.binOp .eql t x y Ty) T E H O (.bool Aj):= .Ao λm w o g _ c _=>by
 have h:(binOp .eql t (.pointer (Ac a)) (.pointer C7)).run P w= .ok (.bool Aj) w:=by
  have h:∀d:Nat,(ns (d+1) t (.pointer (Ac a)) (.pointer C7)).run P w= .ok Aj w:=λd=>by simp[ns,AX i,sizeOf,typeInfo,f,sameAddr]
  simp only[binOp];show(do pure (.bool (<-qn t _ _)):Sem BZ).run P w=_;unfold qn Alu;simp[h 9999]
 simp[Kt,g,c x _ k,c y _ l,eqGuard,h]
theorem Aku{Ty:Gq}{f:Gq}{off:Nat}(l:P.underlying t=Ac (.pointer f))(i:P.info? f=Ac j)(d:E x=Ac (ptr b off))(e:E y=Ac (ptr b off)):Au P (.binOp .neq t x y Ty) T E H O (.bool Aj):= .Ao λm w o k _ c _=>by have h:=Lib.run_neq_ptr_same (P:=P) w (tp:=t) ⟨b,off,C7⟩ l i;simp only[ptr]at d e;simp[Kt,k,c x _ d,c y _ e,eqGuard,h]
theorem Aky(n:P.underlying src=Ac (.pointer t))(g:P.underlying dst=Ac .unsafePointer)(ht:P.info? t=Ac j)(l:j.size≠0)(d:E x=Ac (ptr b 0))(hi:O[i]?=Ac (.Ai b (.cells cs e (0,0))))(h0:0<cs.size):Au P (.convert src dst x) T E H O (ptr b 0):= .Ao λq w o m _ k p=>by have c:=p.ok i _ hi;simp only[Aw.ok]at c;have h:=Lib.run_to_unsafe (P:=P) w (src:=src) (dst:=dst) (cells:=cs.size) (e:=e) ⟨b,0,C7⟩ n g ht l (by simp[IU.shape?,c]) h0;simp only[ptr]at d;simp[Kt,m,k x _ d,h,ptr]
theorem Akx{u:Gq}(n:P.underlying src=Ac .unsafePointer)(g:P.underlying dst=Ac (.pointer u))(p:P.info? u=Ac j)(d:E x=Ac (ptr b 0))(hi:O[i]?=Ac (.Ai b (.cells cs e (0,0))))(l:liesAt P P.depth e (cs.size/P.cellsOf e) 0 u 1=Bp):Au P (.convert src dst x) T E H O (ptr b 0):= .Ao λr w o m _ k q=>by have c:=q.ok i _ hi;simp only[Aw.ok]at c;have h:=Lib.run_from_unsafe (P:=P) w (src:=src) (dst:=dst) (cells:=cs.size) (e:=e) ⟨b,0,C7⟩ n g p (by simp[IU.shape?,c]) l;simp only[ptr]at d;simp[Kt,m,k x _ d,h,ptr]
theorem Akw{f:FuncId}{fn:Func}{tys:Array Gq}(m:P.funcs[f]?=Ac fn)(b:(fn.name== "runtime.NumGoroutine")=Aj)(k:fn.body.isNone=Bp)(n:Extern.findNext fn=C7)(e:Extern.find fn=Ac Extern.AbiNoEscape.same)(q:E x=Ac v):
  Au P (.call {callee:= .value (.func f),args:= #[x],argTypes:=tys}) T E H O v:= .Ao λj w o p _ l r=>by
 have h:=run_callFunc_extern m b k n e #[v] w;rw[Lib.run_noEscape]at h;have g:j.eval (.func f)= .func (.func f) #[] #[]:=rfl;simp[Kt,p,resolve,q8,g,invoke,l x _ q,h]
theorem Akz{p:Option Addr}(f:E x=Ac (.pointer p))(g:E y=Ac (.int .i64 0)):Au P (.call {callee:= .builtin .unsafeString,args:= #[x,y],argTypes:= #[pt,it]}) T E H O (sv []):= .Ao λi w o e _ c j=>by have h:=Lib.run_unsafeString_none (P:=P) w pt it o.type p;simp[Kt,e,resolve,invoke,builtin,c x _ f,c y _ g,h];rfl
theorem BM.unsafeString{l:Aq}{xs:List BZ}(M:P.underlying pt=Ac (.pointer e))(G:P.cellsOf e=1)(A:E x=Ac (AL v 0))(N:E y=Ac (.int .i64 (l.length:Nat)))(hi:O[i]?=Ac (.row v e 1 l.length xs))(D:A2 cBy H l xs)(h0:l≠ []):
  BM P (.call {callee:= .builtin .unsafeString,args:= #[x,y],argTypes:= #[pt,it]}) T E H O (λu B C=>B=H/\C=O.set i .emp/\u=sv l):= .Ao λR w o L _ t z=>by
 have a:=z.ok i _ hi;simp only[Aw.ok]at a;rcases a.2 with⟨_,Q⟩|⟨g,cap,cur,rfl,_,I,K,m,n,r⟩;· exact absurd (OF.1 Q) h0
 ·have s:=V0.1 D;have h:=Lib.run_unsafeString_row (P:=P) w pt it o.type e M G g cur.size (by simp[IU.shape?,I]) l h0 (by simp at n;omega) (by simp only[maxLen]at m;omega) (λj x J=>a.cells (g:=g) rfl j _ (by rw[s];simp[Lib.byteCells,J]));refine⟨sv l,w.freeze ⟨g,0,C7⟩ l.length,H,O.set i .emp,?_,Hp.le.refl H,⟨rfl,rfl,rfl⟩,z.set hi (r':= .emp) ?_ trivial (λb F=>by cases F)⟩;· simp only[AL,xt]at A;simp[Kt,L,resolve,invoke,builtin,t x _ A,t y _ N,h];rfl
  ·have p:¬l.length=0:=λh=>h0 (OF.1 h);unfold IU.freeze;rw[if_neg p];refine⟨rfl,rfl,rfl,by simp,λk S q=>?_⟩;have:¬g=k:=λe=>q (by subst e;rfl);simp[Array.getElem?_modify,this]
end
end
end Go.GK
namespace Go.GK
open Go.Proofs
def HP(P:GN)(H:Hp):Prop:= ∀w O,SH w H O->Lib.TabIs P w "internal/strconv.uint64pow10" .u64 Lib.pow10Tab
theorem HP.mono{P:GN}{H a:Hp}(h:HP P H)(b:H.le a):HP P a:=λw O c=>h w O (c.weaken b)
theorem OP(w:IU)(k:Nat)(os:Array Obj):w.grownBy (Go.Sort.grow (w.drewN k) os) C7:=
 ⟨rfl,rfl,rfl,by simp[Go.Sort.grow,IU.drewN],λb a _=>by simp only[Go.Sort.grow,IU.drewN];rw[Array.getElem?_append_left a]⟩
section
variable {P : GN} {H : Hp} {O : List Aw}
theorem jz.itoa{f:FuncId}{n:Int}(j:∀(n:Int), -9223372036854775808<=n->n<=9223372036854775807->∀(w:IU),Lib.TabIs P w "internal/strconv.uint64pow10" .u64 Lib.pow10Tab->Calls P f #[.int .i64 n] w λe w'=>e= .returned (.string ⟨(Lib.itoa n).toArray⟩)/\∃k os,w'=Go.Sort.grow (w.drewN k) os)
  (i:HP P H) (c:DW n):jz P f [.int .i64 n] H O (sv (Lib.itoa n)):=λw d=>
 (j n c.1 c.2 w (i w O d)).mono λe w' ⟨g,k,os,h⟩=>⟨g,by subst h;exact d.grown (OP w k os)⟩
end
end Go.GK
namespace Go.GK
def ofP(lo hi:Nat)(x:Nat):Bool:=Dl (lo<=x)&&Dl (x<=hi)
def aE(p:Nat->Bool)(k:Nat):List Nat:=(aT k).filter p
def nA(p:Nat->Bool)(k:Nat):Nat:=(aE p k).length
def lst(p:Nat->Bool):Nat:=((aT 256).find? p).getD 0
def anyS(p:Nat->Bool):Bool:=((aT 256).find? p).isSome
def setLast:List (Nat×Nat)->Nat->List (Nat×Nat)
 | [],_=>[]
 | [a],k=>[(a.1,k)]
 |a::b::l,k=>a::setLast (b::l) k
def fU(p:Nat->Bool):Nat->List (Nat×Nat)
 |0=>[]
 |k+1=>if p k then(if 0<k/\p (k-1)=Bp then setLast (fU p k) k else fU p k++[(k,k)])else fU p k
def A8(p:Nat->Bool)(b:Int):Bool:=Dl (0<=b)&&Dl (b<256)&&p b.toNat
def vK(p:Nat->Bool):Nat->Nat->Nat
 |0,y=>y
 |f+1,y=>if A8 p ((y:Int)+1)then vK p f (y+1)else y
def re(p:Nat->Bool)(y:Nat):Nat:=vK p (256-y) y
def rrTo(p:Nat->Bool)(k:Nat):List (Nat×Nat):=((aT k).filter λx=>p x&& !A8 p ((x:Int)-1)).map λx=>(x,re p x)
attribute [irreducible] nA lst anyS aE fU rrTo A8 re
abbrev St:=Nat->Bool
def nth(l:List St)(i:Nat):St:=l.getD i (λ_=>Aj)
def UY(l:List St)(x y:Nat):Bool:=l.all λp=>p x==p y
def cls(l:List St)(x y:Nat):Bool:=Dl (x<=y)&&UY l x y
def ZP(l:List St):Nat->List St×St
 |0=>([],λ_=>Aj)
 |k+1=>if(ZP l k).2 k then ZP l k else((ZP l k).1++[cls l k],λy=>(ZP l k).2 y||cls l k y)
def ne(p:St):Bool:= !eY p (λ_=>Aj)
def w7(p s:St):St:=λx=>p x&&s x
def X_(p s:St):St:=λx=>p x&&(λy=> !s y) x
def sel(a b:St)(j:Nat):St:=if j=0 then a else b
def two(p s:St)(j:Nat):List St:=([w7 p s,X_ p s].take j).filter ne
def ZY(ps:List St)(s:St):List St:=ps.flatMap λp=>two p s 2
def oK(l:List St)(i:Nat):List St:=(l.take i).foldl ZY [ofP 0 255]
def nx(l:List St)(i m j:Nat):List St:=ZY ((oK l i).take m) (nth l i)++two (nth (oK l i) m) (nth l i) j
def cn(p:St):Nat:=nA p 256
def tot(ps:List St):Nat:=(ps.map cn).sum
def Pz(b:Nat)(s:List St×St)(p:St):List St×St:=if p b then(s.1++[p],λy=>s.2 y||p y)else s
def RL(ps:List St):Nat->List St×St
 |0=>([],λ_=>Aj)
 |b+1=>if(RL ps b).2 b then RL ps b else ps.foldl (Pz b) (RL ps b)
def vU(ps:List St)(b m:Nat):List St×St:=(ps.take m).foldl (Pz b) (RL ps b)
theorem ne_eq(p:St):(!eY p (λ_=>Aj))=ne p:=rfl
attribute [irreducible] UY ZP oK nx RL vU nth cls ne w7 X_
def szs(l:List (Nat×Nat)):Nat:=(l.map λa=>a.2+1-a.1).sum
def pr(l:List (Nat×Nat))(i:Nat):Nat×Nat:=l.getD i (0,0)
def rgU(l:List (Nat×Nat))(i:Nat)(z:Nat):Bool:=(l.take i).any λa=>ofP a.1 a.2 z
def rgN(l:List (Nat×Nat))(i:Nat):Nat:=szs (l.take i)
def jw(l:List St)(x y i:Nat):Bool:=UY (l.take i) x y
attribute [irreducible] pr rgU rgN jw
def xv(E:DQ->Option BZ)(lo hi:Option DQ)(l h:Int)(n:Nat):Prop:=(lo=C7/\l=0\/∃p k,lo=Ac p/\E p=Ac (.int k l))/\(hi=C7/\h=(n:Int)\/∃p k,hi=Ac p/\E p=Ac (.int k h))
section
variable {P : GN} {T : Gq} {E : DQ -> Option BZ} {H : Hp} {O : List Aw} {α : Type} {c : Cd α}
section
variable{e t:Gq}{size bytes:Nat}{z:BZ}{n cap:Nat}{h:Int}{xs:List BZ}
theorem IC(a:Addr):a.add 0=a:=by cases a;simp[xt]
theorem Qq(ht:P.underlying t=Ac (.slice e)):P.underlying t=Ac (.slice (P.elem t)):=by simp[GN.elem,ht]
theorem Qr(ht:P.underlying t=Ac (.slice e)):P.elem t=e:=by simp[GN.elem,ht]
theorem ZL{a:Option Addr}{lo hi:Option DQ}{l:Int}{ac:Act}(ht:P.underlying t=Ac (.slice e))(s:TI P e size bytes z)(m:xv E lo hi l h n)(d:∀x v,E x=Ac v->ac.eval x=v)
  (h0:0<=l) (h1:l<=h) (h2:h<=(n:Nat)) (h3:n<=cap) (w:IU):(rK t (.slice a n cap) (lo.map ac.eval) (hi.map ac.eval) C7).run P w= .ok (sliced a l.toNat h.toNat cap size) w:=by
 have b:=Qq ht;have f:(q6 (P.elem t)).run P w= .ok size w:=by rw[Qr ht];exact s.sizeOf
 rw[run_sliceAt_slice (h:=b)];obtain⟨r,o⟩:=m;rcases r with⟨rfl,rfl⟩|⟨p,k,rfl,i⟩<;>rcases o with⟨rfl,rfl⟩|⟨q,u,rfl,j⟩;· simp only[Ala];rw[run_slice_all (t:=t) (a:=a) (len:=n) (cap:=cap) (ht:=b),f];simp[je]
 ·simp only[Ala,Adg,d q _ j];rw[run_slice_h (t:=t) (a:=a) (len:=n) (cap:=cap) (ht:=b) (h0:=h1) (h2:=by omega),f];simp[je]
 ·simp only[Ala,Adg,d p _ i];rw[run_slice_l (t:=t) (a:=a) (len:=n) (cap:=cap) (ht:=b) (h0:=h0) (h1:=h1),f];simp[je]
 ·simp only[Adg,d p _ i,d q _ j];rw[run_slice_lh (t:=t) (a:=a) (len:=n) (cap:=cap) (ht:=b) (h0:=h0) (h1:=h1) (h2:=by omega),f];simp[je]
theorem PR{w:IU}{base:Nat}{g h:Nat}(j:h<=n)
  (p:w.ownsRow base e size (.slice (Ac ⟨g,0,C7⟩) n cap) n xs):w.ownsRow base e size (.slice (Ac ⟨g,0,C7⟩) h cap) h (xs.take (h*size)):=by
 obtain⟨l,m⟩:=p;rcases m with⟨k,_⟩|⟨r,i,cur,q,o,d,s,b,f,a⟩;· cases k
 ·cases q;refine⟨by rw[Aba,l];exact Adh (Abi _ j), .inr ⟨g,cap,cur,rfl,o,d,by omega,b,f,?_⟩⟩;rw[<-a,Agy,Adh (Abi _ j)]
theorem Ajw{x y:DQ}{v:BZ}{l:List α}{k:Lo}{i:Nat}(ht:P.underlying t=Ac (.slice e))(F:TI P e c.sz bytes z)(D:E x=Ac v)(N:E y=Ac (.int k h))
  (hi:O[i]?=Ac (.row v e c.sz l.length xs)) (f:0<=h/\h<=(l.length:Nat)):
  BM P (.slice t x C7 (Ac y) C7) T E H O (λv' G I=>G=H/\I=O.set i (.row v' e c.sz h.toNat (xs.take (h.toNat*c.sz)))):= .Ao λac w o C _ p u=>by
 have d:=u.ok i _ hi;simp only[Aw.ok]at d;have B:xv E C7 (Ac y) 0 h l.length:=⟨.inl ⟨rfl,rfl⟩, .inr ⟨y,k,rfl,N⟩⟩;rcases d.2 with⟨rfl,J⟩|⟨g,cap,cur,rfl,_,Q,r,K,L,s⟩
 ·have A:h=0:=by omega
  subst A;have n:=ZL (ac:=ac) (a:=C7) (cap:=0) ht F B p (Abo 0) f.1 f.2 (by omega) w;rw[J]at n;refine⟨.slice C7 0 0,w,H,_,?_,Hp.le.refl H,⟨rfl,rfl⟩,u.set hi (w':=w) (r':= .row (.slice C7 0 0) e c.sz 0 (xs.take (0*c.sz))) ⟨rfl,rfl,rfl,Aae _,λ_ _ _=>rfl⟩ ?_ ?_⟩
  ·have m:Sem.run P (rK t (.slice C7 0 0) C7 (Ac (ac.eval y)) C7) w= .ok (.slice C7 0 0) w:=by simpa [sliced]using n
   simp[Kt,C,p x _ D,m,je]
  ·simpa [Aw.ok]using IU.ownsRow_nil w _ e c.sz
  ·intro b f;cases f
 ·have n:=ZL (ac:=ac) (a:=Ac ⟨g,0,C7⟩) (cap:=cap) ht F B p (Abo 0) f.1 f.2 r w;have M:sliced (Ac ⟨g,0,C7⟩) (0:Int).toNat h.toNat cap c.sz= .slice (Ac ⟨g,0,C7⟩) h.toNat cap:=by
   simp[sliced,IC]
  rw[M]at n;refine⟨_,w,H,_,?_,Hp.le.refl H,⟨rfl,rfl⟩,u.set hi (w':=w) (r':= .row (.slice (Ac ⟨g,0,C7⟩) h.toNat cap) e c.sz h.toNat (xs.take (h.toNat*c.sz))) ⟨rfl,rfl,rfl,Aae _,λ_ _ _=>rfl⟩ (PR (by omega) d) ?_⟩
  ·have m:Sem.run P (rK t (.slice (Ac ⟨g,0,C7⟩) l.length cap) C7 (Ac (ac.eval y)) C7) w= .ok (.slice (Ac ⟨g,0,C7⟩) h.toNat cap) w:=by simpa using n
   simp[Kt,C,p x _ D,m,je]
  ·intro b f;exact .inl f
end
end
section
variable {α : Type}
abbrev Fam(α:Type):=List (BZ×List α×List BZ)
variable {c : Cd α} {H H' : Hp} {D : List (List α)} {F : Fam α}
theorem fE{xs:List BZ}{i:Nat}{v:BZ}(h:i<xs.length):Ct xs i [v]=xs.set i v:=by unfold Ct;simp only[Abn,Adu];exact(Ady (l:=xs) (i:=i) (a:=v)).symm▸(by rw[if_pos h];simp)
variable {w : IU} {A B R : List Aw} {e : Gq} {sz i : Nat} {f f' : BZ × List α × List BZ}
end
section
variable {w : IU} {H : Hp} {A B R : List Aw}
theorem Ahc(h:SH w H (A++(B++R))):SH w H (B++(A++R)):=by
 refine h.pick (λj=>if j<B.length then A.length+j else if j<B.length+A.length then j-B.length else j) (λj s a=>?_) (λj k e f c=>?_)
 ·by_cases b:j<B.length;· rw[if_pos b];rw[Pe b]at a;rw[Aab (by omega),Acg,Pe b];exact a
  ·rw[if_neg b];rw[Aab (by omega)]at a;by_cases d:j<B.length+A.length;· rw[if_pos d];rw[Pe (by omega)]at a⊢;exact a
   ·rw[if_neg d];rw[Aab (by omega)]at a;rw[Aab (by omega),Aab (by omega)];rw[show j-A.length-B.length=j-B.length-A.length by omega];exact a
 ·split at c<;>split at c<;>(try split at c)<;>(try split at c)<;>omega
end
section
variable {P : GN} {T : Gq} {E : DQ -> Option BZ} {H : Hp} {O : List Aw} {x y : DQ} {Tx Ty : Gq}
section
variable{k:Lo}{a:BitVec 64}{e:Int}
theorem Au.NM(b:E x=Ac (K0 a))(c:E y=Ac (.int k e))(h0:0<=e):Au P (.binOp .shl Tx x y Ty) T E H O (K0 (a<<<e.toNat)):=
 Aij (n:=e.toNat) b (by rw[c,Abe h0])
theorem Au.T0(b:E x=Ac (K0 a))(c:E y=Ac (.int k e))(h0:0<=e):Au P (.binOp .shr Tx x y Ty) T E H O (K0 (a>>>e.toNat)):=
 Aii (n:=e.toNat) b (by rw[c,Abe h0])
end
end
end Go.GK
namespace Go.GK
open Go.RowKit Go.Deep
section
variable {H : Type} {enc : Gq × BZ -> H} {P : GN} {w : IU} {base : Nat} {spare : Nat -> Bool} {held : Bool} {α β : Type}
theorem WX{c:Cd α}{a:Hp} :∀ {l:List (α×List BZ)},(∀x∈l,c.BP a x.1 x.2)->A2 c a (l.map (·.1)) (l.flatMap (·.2))
 | [],_=>rfl
 |x::l,h=>⟨x.2,l.flatMap (·.2),rfl,h x (by simp),WX λy b=>h y (by simp[b])⟩
theorem KA{sz:Nat} :∀ {l:List (α×List BZ)},(∀x∈l,x.2.length=sz)->(l.flatMap (·.2)).length=l.length*sz
 | [],_=>by simp
 |x::l,h=>by rw[Aga,Aac,h x (by simp),KA λy b=>h y (by simp[b]),Abn,Adp];omega
theorem OU{sz:Nat} :∀ {l:List (α×List BZ)} (_:∀x∈l,x.2.length=sz) (i j:Nat) (x:α×List BZ),l[i]?=Ac x->j<sz->(l.flatMap (·.2))[i*sz+j]?=x.2[j]?
 | [],_,i,j,x,h,_=>by simp at h
 |y::l,a,0,j,x,h,c=>by simp at h;subst h;rw[Aga,Aeh,Abl,Pe (by rw[a y (by simp)];exact c)]
 |y::l,a,i+1,j,x,h,c=>by rw[Aga,Aab (by rw[a y (by simp),Adp];omega),a y (by simp)];rw[show(i+1)*sz+j-sz=i*sz+j by rw[Adp];omega];exact OU (λz d=>a z (by simp[d])) i j x (by simpa using h) c
end
section
variable {H : Type} {enc : Gq × BZ -> H} {P : GN} {w : IU} {base : Nat} {spare : Nat -> Bool} {held : Bool}
theorem oq{r:Reach}{a:Nat}{t:Gq}{v:BZ}{d:DataW H}{p:List MemPlace}(ht:P.underlying t=Ac .string)(c:BZ.okWide P w r a t v)(b:DataW.Trod enc P w base spare held t v d p):∃l:Aq,v=sv l:=by obtain⟨s,rfl,_⟩:=Go.ChangeMaps.open_string ht c b;exact⟨s.data.toList,rfl⟩
theorem HP.of{W:IU}{g:Nat}(c:P.globalNamed "internal/strconv.uint64pow10" =Ac g)(h:Lib.TabIs P W "internal/strconv.uint64pow10" .u64 Lib.pow10Tab):HP P (Hp.of W):=λw O f=>by
 have d:=f.below;have b:g<W.heap.size:=by
  unfold Lib.TabIs IU.var? at h;rw[c]at h;simp only[Option.bind_some]at h;split at h;· rename_i e;exact(Acw.1 e).1
  ·cases h
 exact Go.var?_below d c b h
end
end Go.GK
namespace Go.Proofs.YtimbbibpghnipaaGreatDoor
open Go.GK
theorem follows:Tryz.prog.follows .mixedOrders=Bp:=by kernel_rfl
theorem vE:TI Tryz.prog 346 1 8 (.pointer C7):=TI.of (by kernel_rfl)
theorem ra:TM Tryz.prog 407:=⟨Tryz.f407,Tryz.func407,by kernel_rfl,rfl⟩
theorem LS:jC Tryz.prog 348 0 0 346:=jC.of (k:=0) (by kernel_rfl)
variable {H : Hp} {O : List Aw}
section
variable{B:Nat}{v:BZ}
theorem wF:∃j,Tryz.prog.info? 348=Ac j/\j.size≠0:=by
 have h:(Tryz.prog.info? 348).map (λj=>j.size)=Ac 2:=by kernel_rfl
 cases hj:Tryz.prog.info? 348 with
 |none=>rw[hj]at h;cases h
 |some j=>rw[hj]at h;simp at h;exact⟨j,rfl,by omega⟩
theorem dc:Ts Tryz.prog 407 [ptr B 0] H (.Ai B (.cells #[.pointer C7,v] 348 (0,0))::O) (λr H' O'=> .tuple #[]=r/\ .Ai B (.cells #[ptr B 0,v] 348 (0,0))::O=O'):=by
 obtain⟨j,hj,hj0⟩:=wF
 intro w hs
 refine kW Tryz.func407 rf rf rf ?_ hs
 clear hs w
 refine Wp.seq ?_
 refine Wp.region ?_
 refine Fe.op (Au.move rf) rf ?_
 refine Fe.op (Au.nilCheck rf) rf ?_
 refine Fe.op (Ags (o':=0) LS rf rf) rf ?_
 refine Fe.op (Agj (i:=0) (v:= .pointer C7) Tryz.underlying346 rf rf rf rf) rf ?_
 refine Fe.op (Ake Tryz.underlying346 hj rf rf) rf ?_
 refine Fe.nil ?_
 refine Ahv ?_
 refine Ajo rf ?_
 refine Wp.region ?_
 refine Fe.op (Au.move rf) rf ?_
 refine Fe.op (Au.move rf) rf ?_
 refine Fe.op (Aky (i:=0) Tryz.underlying346 Tryz.underlying366 hj hj0 rf rf (Aax rf)) rf ?_
 refine Fe.op (Akw Tryz.func411 (by kernel_rfl) (by kernel_rfl) (by kernel_rfl) (by kernel_rfl) rf) rf ?_
 refine Fe.op (Akx (i:=0) Tryz.underlying366 Tryz.underlying346 hj rf rf (by kernel_rfl)) rf ?_
 refine Fe.op (Au.nilCheck rf) rf ?_
 refine Fe.op (Ags (o':=0) LS rf rf) rf ?_
 refine Fe.ov (i:=0) rf rf rf vE rf (Aax rf) ?_
 refine Fe.nil ?_
 exact Ajg rf (λw hs=>⟨_,_,_,rf,Hp.le.refl _,hs,rf,rf⟩)
theorem Yo:Ts Tryz.prog 407 [ptr B 0] H (.Ai B (.cells #[ptr B 0,v] 348 (0,0))::O) (λr H' O'=> .tuple #[]=r/\ .Ai B (.cells #[ptr B 0,v] 348 (0,0))::O=O'):=by
 obtain⟨j,hj,hj0⟩:=wF
 intro w hs
 refine kW Tryz.func407 rf rf rf ?_ hs
 clear hs w
 refine Wp.seq ?_
 refine Wp.region ?_
 refine Fe.op (Au.move rf) rf ?_
 refine Fe.op (Au.nilCheck rf) rf ?_
 refine Fe.op (Ags (o':=0) LS rf rf) rf ?_
 refine Fe.op (Agj (i:=0) (v:=ptr B 0) Tryz.underlying346 rf rf rf rf) rf ?_
 refine Fe.op (Akq Tryz.underlying346 hj rf rf) rf ?_
 refine Fe.nil ?_
 refine Ahv ?_
 refine Aiv rf ?_
 refine Wp.seq ?_
 refine Wp.region ?_
 refine Fe.op (Au.move rf) rf ?_
 refine Fe.op (Au.nilCheck rf) rf ?_
 refine Fe.op (Ags (o':=0) LS rf rf) rf ?_
 refine Fe.op (Agj (i:=0) (v:=ptr B 0) Tryz.underlying346 rf rf rf rf) rf ?_
 refine Fe.op (Au.move rf) rf ?_
 refine Fe.op (Aku Tryz.underlying346 hj rf rf) rf ?_
 refine Fe.nil ?_
 refine Ahv ?_
 refine Aiv rf ?_
 refine Wp.skip ?_
 exact Ajg rf (λw hs=>⟨_,_,_,rf,Hp.le.refl _,hs,rf,rf⟩)
theorem bldC{a:BZ}(ha:a= .pointer C7\/a=ptr B 0):Ts Tryz.prog 407 [ptr B 0] H (.Ai B (.cells #[a,v] 348 (0,0))::O) (λr H' O'=> .tuple #[]=r/\ .Ai B (.cells #[ptr B 0,v] 348 (0,0))::O=O'):=by
 rcases ha with rfl|rfl
 ·exact dc
 ·exact Yo
end
end Go.Proofs.YtimbbibpghnipaaGreatDoor
namespace Go.Proofs
open Go.Shelf
def Aib:Go.Shelf.Ren:=⟨λ|171=>394|243=>408|246=>412|283=>413|284=>414|285=>415|286=>416|129=>310|317=>417|318=>418|319=>419|320=>420|337=>421|338=>422|n=>n,λ|3=>3|9=>9|2=>2|4=>4|171=>369|0=>0|53=>291|37=>268|5=>5|173=>371|212=>375|51=>289|20=>20|213=>376|46=>249|232=>377|233=>378|n=>n,λ|17=>0|18=>1|19=>2|n=>n⟩
theorem Aia:Go.Proofs.LaysM.n171 Tryz.prog Aib:= {
 mixed:=by kernel_rfl
 f129:=Tryz.func310.trans (congrArg Ac (by kernel_rfl))
 f171:=Tryz.func394.trans (congrArg Ac (by kernel_rfl))
 f243:=Tryz.func408.trans (congrArg Ac (by kernel_rfl))
 f246:=Tryz.func412.trans (congrArg Ac (by kernel_rfl))
 f283:=Tryz.func413.trans (congrArg Ac (by kernel_rfl))
 f284:=Tryz.func414.trans (congrArg Ac (by kernel_rfl))
 f285:=Tryz.func415.trans (congrArg Ac (by kernel_rfl))
 f286:=Tryz.func416.trans (congrArg Ac (by kernel_rfl))
 f317:=Tryz.func417.trans (congrArg Ac (by kernel_rfl))
 f318:=Tryz.func418.trans (congrArg Ac (by kernel_rfl))
 f319:=Tryz.func419.trans (congrArg Ac (by kernel_rfl))
 f320:=Tryz.func420.trans (congrArg Ac (by kernel_rfl))
 f337:=Tryz.func421.trans (congrArg Ac (by kernel_rfl))
 f338:=Tryz.func422.trans (congrArg Ac (by kernel_rfl))
 t0:=Tryz.underlying0
 a0:=Tryz.isAgg0
 z0:=Tryz.sizeOf0
 v0:=Tryz.zeroValue0
 t2:=Tryz.underlying2
 a2:=Tryz.isAgg2
 z2:=Tryz.sizeOf2
 v2:=Tryz.zeroValue2
 t3:=Tryz.underlying3
 a3:=Tryz.isAgg3
 z3:=Tryz.sizeOf3
 v3:=Tryz.zeroValue3
 t4:=Tryz.underlying4
 a4:=Tryz.isAgg4
 z4:=Tryz.sizeOf4
 v4:=Tryz.zeroValue4
 t5:=Tryz.underlying5
 a5:=Tryz.isAgg5
 z5:=Tryz.sizeOf5
 v5:=Tryz.zeroValue5
 t9:=Tryz.underlying9
 a9:=Tryz.isAgg9
 z9:=Tryz.sizeOf9
 v9:=Tryz.zeroValue9
 t20:=Tryz.underlying20
 a20:=Tryz.isAgg20
 z20:=Tryz.sizeOf20
 v20:=Tryz.zeroValue20
 t37:=Tryz.underlying268
 a37:=Tryz.isAgg268
 z37:=Tryz.sizeOf268
 v37:=Tryz.zeroValue268
 t46:=Tryz.underlying249
 a46:=Tryz.isAgg249
 z46:=Tryz.sizeOf249
 v46:=Tryz.zeroValue249
 t51:=Tryz.underlying289
 a51:=Tryz.isAgg289
 z51:=Tryz.sizeOf289
 v51:=Tryz.zeroValue289
 t53:=Tryz.underlying291
 a53:=Tryz.isAgg291
 z53:=Tryz.sizeOf291
 v53:=Tryz.zeroValue291
 t171:=Tryz.underlying369
 a171:=Tryz.isAgg369
 z171:=Tryz.sizeOf369
 v171:=Tryz.zeroValue369
 t173:=Tryz.underlying371
 a173:=Tryz.isAgg371
 z173:=Tryz.sizeOf371
 v173:=Tryz.zeroValue371
 t212:=Tryz.underlying375
 a212:=Tryz.isAgg375
 z212:=Tryz.sizeOf375
 v212:=Tryz.zeroValue375
 t213:=Tryz.underlying376
 a213:=Tryz.isAgg376
 z213:=Tryz.sizeOf376
 t232:=Tryz.underlying377
 a232:=Tryz.isAgg377
 z232:=Tryz.sizeOf377
 v232:=Tryz.zeroValue377
 t233:=Tryz.underlying378
 a233:=Tryz.isAgg378
 z233:=Tryz.sizeOf378
 v233:=Tryz.zeroValue378
 g17:=by kernel_rfl
 g18:=by kernel_rfl
 g19:=by kernel_rfl
 i0:=by kernel_rfl
 i2:=by kernel_rfl
 i3:=by kernel_rfl
 i4:=by kernel_rfl
 i5:=by kernel_rfl
 i9:=by kernel_rfl
 i20:=by kernel_rfl
 i37:=by kernel_rfl
 i46:=by kernel_rfl
 i51:=by kernel_rfl
 i53:=by kernel_rfl
 i171:=by kernel_rfl
 i173:=by kernel_rfl
 i212:=by kernel_rfl
 i232:=by kernel_rfl
 i233:=by kernel_rfl
 m17:=by kernel_rfl
 m18:=by kernel_rfl
 m19:=by kernel_rfl}
open Go.RowKit Go.Sort Go.Lib in
theorem Tryz.strconv_Itoa(n:Int)(h0: -9223372036854775808<=n)(h1:n<=9223372036854775807)(w:IU)(htab:Lib.TabIs Tryz.prog w "internal/strconv.uint64pow10" .u64 Lib.pow10Tab):
 Calls Tryz.prog 394 #[.int .i64 n] w λe w'=>e= .returned (.string ⟨(Lib.itoa n).toArray⟩)/\∃k os,w'=grow (w.drewN k) os:=Any.strconv_Itoa Aia n h0 h1 w htab
def Aic:Go.Shelf.Ren:=⟨λ|176=>392|249=>406|288=>410|283=>413|284=>414|285=>415|286=>416|129=>310|317=>417|318=>418|319=>419|320=>420|337=>421|338=>422|n=>n,λ|37=>268|2=>2|3=>3|53=>291|4=>4|9=>9|171=>369|0=>0|173=>371|212=>375|51=>289|5=>5|20=>20|213=>376|46=>249|232=>377|233=>378|n=>n,λ|17=>0|18=>1|19=>2|n=>n⟩
theorem Tryz.aW:Go.Proofs.LaysM.n176 Tryz.prog Aic:= {
 mixed:=by kernel_rfl
 f129:=Tryz.func310.trans (congrArg Ac (by kernel_rfl))
 f176:=Tryz.func392.trans (congrArg Ac (by kernel_rfl))
 f249:=Tryz.func406.trans (congrArg Ac (by kernel_rfl))
 f283:=Tryz.func413.trans (congrArg Ac (by kernel_rfl))
 f284:=Tryz.func414.trans (congrArg Ac (by kernel_rfl))
 f285:=Tryz.func415.trans (congrArg Ac (by kernel_rfl))
 f286:=Tryz.func416.trans (congrArg Ac (by kernel_rfl))
 f288:=Tryz.func410.trans (congrArg Ac (by kernel_rfl))
 f317:=Tryz.func417.trans (congrArg Ac (by kernel_rfl))
 f318:=Tryz.func418.trans (congrArg Ac (by kernel_rfl))
 f319:=Tryz.func419.trans (congrArg Ac (by kernel_rfl))
 f320:=Tryz.func420.trans (congrArg Ac (by kernel_rfl))
 f337:=Tryz.func421.trans (congrArg Ac (by kernel_rfl))
 f338:=Tryz.func422.trans (congrArg Ac (by kernel_rfl))
 t0:=Tryz.underlying0
 a0:=Tryz.isAgg0
 z0:=Tryz.sizeOf0
 v0:=Tryz.zeroValue0
 t2:=Tryz.underlying2
 a2:=Tryz.isAgg2
 z2:=Tryz.sizeOf2
 v2:=Tryz.zeroValue2
 t3:=Tryz.underlying3
 a3:=Tryz.isAgg3
 z3:=Tryz.sizeOf3
 v3:=Tryz.zeroValue3
 t4:=Tryz.underlying4
 a4:=Tryz.isAgg4
 z4:=Tryz.sizeOf4
 v4:=Tryz.zeroValue4
 t5:=Tryz.underlying5
 a5:=Tryz.isAgg5
 z5:=Tryz.sizeOf5
 v5:=Tryz.zeroValue5
 t9:=Tryz.underlying9
 a9:=Tryz.isAgg9
 z9:=Tryz.sizeOf9
 v9:=Tryz.zeroValue9
 t20:=Tryz.underlying20
 a20:=Tryz.isAgg20
 z20:=Tryz.sizeOf20
 v20:=Tryz.zeroValue20
 t37:=Tryz.underlying268
 a37:=Tryz.isAgg268
 z37:=Tryz.sizeOf268
 v37:=Tryz.zeroValue268
 t46:=Tryz.underlying249
 a46:=Tryz.isAgg249
 z46:=Tryz.sizeOf249
 v46:=Tryz.zeroValue249
 t51:=Tryz.underlying289
 a51:=Tryz.isAgg289
 z51:=Tryz.sizeOf289
 v51:=Tryz.zeroValue289
 t53:=Tryz.underlying291
 a53:=Tryz.isAgg291
 z53:=Tryz.sizeOf291
 v53:=Tryz.zeroValue291
 t171:=Tryz.underlying369
 a171:=Tryz.isAgg369
 z171:=Tryz.sizeOf369
 v171:=Tryz.zeroValue369
 t173:=Tryz.underlying371
 a173:=Tryz.isAgg371
 z173:=Tryz.sizeOf371
 v173:=Tryz.zeroValue371
 t212:=Tryz.underlying375
 a212:=Tryz.isAgg375
 z212:=Tryz.sizeOf375
 v212:=Tryz.zeroValue375
 t213:=Tryz.underlying376
 a213:=Tryz.isAgg376
 z213:=Tryz.sizeOf376
 t232:=Tryz.underlying377
 a232:=Tryz.isAgg377
 z232:=Tryz.sizeOf377
 v232:=Tryz.zeroValue377
 t233:=Tryz.underlying378
 a233:=Tryz.isAgg378
 z233:=Tryz.sizeOf378
 v233:=Tryz.zeroValue378
 g17:=by kernel_rfl
 g18:=by kernel_rfl
 g19:=by kernel_rfl
 i0:=by kernel_rfl
 i2:=by kernel_rfl
 i3:=by kernel_rfl
 i4:=by kernel_rfl
 i5:=by kernel_rfl
 i9:=by kernel_rfl
 i20:=by kernel_rfl
 i37:=by kernel_rfl
 i46:=by kernel_rfl
 i51:=by kernel_rfl
 i53:=by kernel_rfl
 i171:=by kernel_rfl
 i173:=by kernel_rfl
 i212:=by kernel_rfl
 i232:=by kernel_rfl
 i233:=by kernel_rfl
 m17:=by kernel_rfl
 m18:=by kernel_rfl
 m19:=by kernel_rfl}
end Go.Proofs
namespace Go.GV
open Go Go.GK
def iC:Int->Bool
 | .ofNat m=>iT m 9223372036854775807
 | .negSucc m=>iT m 9223372036854775807
theorem bU:∀(n:Int),iC n=Bp↔DW n
 | .ofNat m=>by have e:Int.ofNat m=(m:Int):=rfl;simp only[iC,DW,Nat.ble_eq,e];omega
 | .negSucc m=>by simp only[iC,DW,Nat.ble_eq];omega
instance(priority:=2000) decF64(n:Int):Decidable (-9223372036854775808<=n/\n<=9223372036854775807):=decidable_of_iff (iC n=Bp) (bU n)
inductive Ty where
 |int (k:Lo)|bool|str|sl (t:Ty)|st (t:Ty)|pr (a b:Ty)|un|bs|nm (i:Nat)|ar (n:Nat) (t:Ty)
def kb:Lo->Lo->Bool
 | .i8, .i8| .i16, .i16| .i32, .i32| .i64, .i64| .u8, .u8| .u16, .u16| .u32, .u32| .u64, .u64=>Bp
 |_,_=>Aj
theorem OK:∀ {a b:Lo},kb a b=Bp->a=b:=by intro a b;cases a<;>cases b<;>simp[kb]
def Ty.JO:Ty->Ty->Bool
 | .int j, .int k=>kb j k
 | .bool, .bool| .str, .str| .un, .un| .bs, .bs=>Bp
 | .sl a, .sl b| .st a, .st b=>a.JO b
 | .pr a b, .pr c d=>a.JO c&&b.JO d
 | .nm i, .nm j=>Hh i j
 | .ar n a, .ar m b=>Hh n m&&a.JO b
 |_,_=>Aj
theorem Adn:∀ {a b:Ty},a.JO b=Bp->a=b
 | .int j,b,h=>by cases b<;>simp_all [Ty.JO];exact OK h
 | .bool,b,h=>by grind[Ty.JO]
 | .str,b,h=>by grind[Ty.JO]
 | .un,b,h=>by grind[Ty.JO]
 | .bs,b,h=>by grind[Ty.JO]
 | .nm i,b,h=>by cases b<;>simp_all [Ty.JO]
 | .sl a,b,h=>by cases b<;>simp_all [Ty.JO];exact Adn h
 | .st a,b,h=>by cases b<;>simp_all [Ty.JO];exact Adn h
 | .pr a c,b,h=>by cases b<;>simp_all [Ty.JO];exact⟨Adn h.1,Adn h.2⟩
 | .ar n a,b,h=>by cases b<;>simp_all [Ty.JO];exact Adn h.2
theorem gS(k:Lo):kb k k=Bp:=by cases k<;>rfl
theorem Ty.SG(t:Ty):t.JO t=Bp:=by
 induction t with
 |int k=>exact gS k
 |_=>simp_all [Ty.JO]
def Ty.den(T:Nat->Type):Ty->Type
 | .int _=>Int
 | .bool=>Bool
 | .str=>Aq
 | .sl t=>List (t.den T)
 | .st t=>t.den T
 | .pr a b=>a.den T×b.den T
 | .un=>Unit
 | .bs=>yM
 | .nm i=>T i
 | .ar _ t=>List (t.den T)
def Ty.agg:Ty->Bool
 | .st _| .bs| .nm _| .ar _ _| .pr _ _| .un=>Bp
 |_=>Aj
section
variable{T:Nat->Type}
def Hz:Ty->Bool
 | .int _| .bool| .str| .un| .bs=>Bp
 | .st t=>Hz t
 | .pr a b=>Hz a&&Hz b
 |_=>Aj
def S_{a b:Ty}(h:a.JO b=Bp)(x:a.den T):b.den T:=Eq.rec (motive:=λb _=>b.den T) x (Adn h)
def cK(k:Lo):Cd Int where
 sz:=1
 BP _ n c:=c=[.int k n]/\k.min<=n/\n<=k.max
 len h:=by grind
 mono _ h:=h
 one h:=by rw[h.1];intro u a;simp at a;subst a;rfl
def rF:Lo->Cd Int
 | .i64=>rG
 | .u8=>cU8
 |k=>cK k
def cUn:Cd Unit where
 sz:=0
 BP _ _ b:=b=[]
 len h:=by grind
 mono _ h:=h
 one h:=by grind
def S9{T:Nat->Type}(c:(i:Nat)->Cd (T i)):(t:Ty)->Cd (t.den T)
 | .int k=>rF k
 | .bool=>cB
 | .str=>cS
 | .sl t=>cL (S9 c t)
 | .st t=>S9 c t
 | .pr a b=>cP (S9 c a) (S9 c b)
 | .un=>cUn
 | .bs=>cBs
 | .nm i=>c i
 | .ar n t=>cA n (S9 c t)
structure C9 where
 T:Nat->Type
 body:Nat->Ty
 out:(i:Nat)->T i->(body i).den T
 wE:(i:Nat)->(body i).den T->T i
 size:Nat->Nat
 id:Gq->Option Nat
 cd:(i:Nat)->Cd (T i)
 size_eq:∀i,(cd i).sz=size i
 LI:∀i x,out i (wE i x)=x
 lay:∀ {i H a cs},(cd i).BP H a cs↔(S9 cd (body i)).BP H (out i a) cs
 prog:Option GN:=C7
 inv:Hp->Prop:=λ_=>True
 CZ:∀ {H H'},H.le H'->inv H->inv H':=by intros;trivial
end
section
variable (N : C9)
abbrev C9.c(t:Ty):Cd (t.den N.T):=S9 N.cd t
def Ty.sz:Ty->Nat
 | .st t=>t.sz
 | .pr a b=>a.sz+b.sz
 | .un=>0
 | .bs=>4
 | .nm i=>N.size i
 | .ar n t=>n*t.sz
 |_=>1
variable {N}
section
variable{H:Hp}{cs:List BZ}
theorem Bn:∀t:Ty,(N.c t).sz=t.sz N
 | .int k=>by cases k<;>rfl
 | .bool=>rfl
 | .str=>rfl
 | .sl _=>rfl
 | .st t=>Bn t
 | .pr a b=>by show(N.c a).sz+(N.c b).sz=a.sz N+b.sz N;rw[Bn a,Bn b]
 | .un=>rfl
 | .bs=>rfl
 | .nm i=>N.size_eq i
 | .ar n t=>by show n*(N.c t).sz=n*t.sz N;rw[Bn t]
theorem O7{a b:Ty}(h:a.JO b=Bp){x:a.den N.T}(d:(N.c a).BP H x cs):(N.c b).BP H (S_ h x) cs:=by have e:=Adn h;subst e;exact d
theorem Bg{t:Ty}{H:Hp}{x:t.den N.T}{cs:List BZ}(h:(N.c t).BP H x cs):cs.length=t.sz N:=by rw[<-Bn];exact(N.c t).len h
def UE(k:Lo)(n:Int):Prop:=match k with
 | .i64=>True
 | .u8=>0<=n/\n<=255
 |k=>k.min<=n/\n<=k.max
theorem D4{k:Lo}{n:Int} :(rF k).BP H n cs↔cs=[.int k n]/\UE k n:=by cases k<;>simp[rF,rG,cU8,cK,UE]
end
end
def rdH(v:BZ):Option (DataW BZ×List MemPlace):=Ac (.held v,[])
section
variable {P : GN} {kt et : Gq} {κ : Type} [DecidableEq κ]
def QQ(K:NW P kt κ)(b:Nat)(m:List (κ×BZ))(w:IU):Prop:= ∃D:DataW BZ,w.ownsMap P kt rdH b m.length D/\Maps.size D=m.length/\(∀k,Maps.has D (K.lit k)=(AB m k).isSome)/\∀k x,AB m k=Ac x->∀z,D.atKey (K.lit k) z= .held x
def Ks(K:NW P kt κ)(b:Nat)(m:List (κ×BZ)):Aw:= .own b (QQ K b m) (λ_ ⟨_,h,_⟩=>h.lt) (λ_ _ _ ⟨D,h,c⟩ d a=>⟨D,h.kept d (λe=>a e.symm),c⟩)
variable {K : NW P kt κ} {T : Gq} {E : DQ -> Option BZ} {H : Hp} {O : List Aw} {t : Gq}
section
variable{b:Nat}{m:List (κ×BZ)}{x:DQ}{i:Nat}{k:κ}{y:DQ}{v:BZ}{n bytes:Nat}{z:BZ}{u:DQ}
theorem Aht(ht:P.underlying t=Ac (.map kt et))(C:TI P et n bytes z)(A:E x=Ac (.map (Ac b)))(B:E y=Ac (K.val k))(q:K.ok k)(hi:O[i]?=Ac (Ks K b m)):
  Au P (.lookup t x y Aj) T E H O ((AB m k).getD z):= .Ao λG w o r _ g s=>by
 obtain⟨D,j,I,l,p⟩:QQ K b m w:=s.ok i _ hi;obtain⟨v,F,d,a⟩:=j.lookup K.keyed ht C.zeroValue (zd:= .held z) (zp:=[]) rfl (K.of k q);have e:v=(AB m k).getD z:=by
  have a:Ac ((DataW.held v:DataW BZ),([]:List MemPlace))=Ac (_,F):=a;cases h:AB m k with
  |none=>
   grind[Maps.atKey_of_not_has]
  |some u=>simp_all
 simp_all[Kt]
theorem Ahu(ht:P.underlying t=Ac (.map kt et))(F:TI P et n bytes z)(B:E x=Ac (.map (Ac b)))(C:E y=Ac (K.val k))(r:K.ok k)(hi:O[i]?=Ac (Ks K b m)):
  Au P (.lookup t x y Bp) T E H O (.tuple #[(AB m k).getD z, .bool (AB m k).isSome]):= .Ao λI w o s _ j A=>by
 obtain⟨D,p,J,h,q⟩:QQ K b m w:=A.ok i _ hi;obtain⟨v,G,a,c⟩:=p.look_ok K.keyed ht F.zeroValue (zd:= .held z) (zp:=[]) rfl (K.of k r);have e:v=(AB m k).getD z:=by
  have c:Ac ((DataW.held v:DataW BZ),([]:List MemPlace))=Ac (_,G):=c;cases l:AB m k with
  |none=>
   grind[Maps.atKey_of_not_has]
  |some u=>simp_all
 simp_all[Kt]
theorem Ajf(ht:P.underlying t=Ac (.map kt et))(j:E x=Ac (.map (Ac b)))(hi:O[i]?=Ac (Ks K b m)):
  Au P (.call {callee:= .builtin .len,args:= #[x],argTypes:= #[t]}) T E H O (.int .i64 ((m.length:Nat):Int)):= .Ao λk w o g _ f h=>by
 obtain⟨D,d,e,l,n⟩:QQ K b m w:=h.ok i _ hi;have:=d.len ht o.type;rw[e]at this;simp[Kt,g,f x _ j,resolve,invoke,builtin,this]
theorem QQ.store{w:IU}(h:QQ K b m w)(ht:P.underlying t=Ac (.map kt et))(u:K.ok k)(B:m.length<=Ah):
  ∃w',(Instr.mapUpdate t (.map (Ac b)) (K.val k) v).run P w= .ok () w'/\QQ K b (Bw m k v) w'/\w.grownBy w' (Ac b):=by
 obtain⟨D,f,r,l,s⟩:=h;obtain⟨w',o,p,q⟩:=f.update K.keyed ht (by simp only[Ah,maxLen]at*;omega) (K.of k u) (d:= .held v) (ps:=[]) rfl;have c:Maps.size (D.put (K.lit k) (.held v))=(Bw m k v).length:=by rw[Maps.size_put (f.tidy K.keyed),l k,r,Kz]
 refine⟨w',o,⟨_,?_,c,λg=>?_,λg x a z=>?_⟩,q⟩
 ·obtain⟨j,clock,y,A,C,n⟩:=p;refine⟨j,clock,y,A,?_,n⟩;simp_all[Maps.size,Go.length_read,Aae]
 ·rw[Ia];by_cases e:g=k;· subst e;rw[if_pos rfl,Maps.has_put_same f.isMap (K.key _)];rfl
  ·rw[if_neg e,Maps.has_put_other (λx=>e (K.inj _ _ x)),l]
 ·rw[Ia]at a;by_cases e:g=k;· subst e;rw[if_pos rfl]at a;injection a with a;subst a;exact Maps.atKey_put_same f.isMap (K.key _) _ _
  ·rw[Maps.atKey_put_other (λx=>e (K.inj _ _ x))];grind
theorem Ahp(ht:P.underlying t=Ac (.map kt et))(A:E x=Ac (.map (Ac b)))(B:E y=Ac (K.val k))(z:E u=Ac v)(q:K.ok k)(r:m.length<=Ah)(hi:O[i]?=Ac (Ks K b m)):
  BM P (.mapUpdate t x y u) T E H O (λ_ g h=>g=H/\h=O.set i (Ks K b (Bw m k v))):= .LL λa w o s _ e f=>by
 obtain⟨C,j,l,n⟩:=QQ.store (f.ok i _ hi) ht q r;refine⟨C,H,_,?_,Hp.le.refl H,⟨rfl,rfl⟩,f.set hi n l (λc p=> .inl p)⟩;simp_all[Kt]
theorem Ahn(ht:P.underlying t=Ac (.map kt et))(A:E x=Ac (.map (Ac b)))(B:E y=Ac (K.val k))(z:E u=Ac v)(q:K.ok k)(r:m.length<=Ah)(hi:O[i]?=Ac (Ks K b m)):
  BM P (.insert t x y u) T E H O (λ_ g h=>g=H/\h=O.set i (Ks K b (Bw m k v))):= .LL λa w o s _ e f=>by
 obtain⟨C,j,l,n⟩:=QQ.store (f.ok i _ hi) ht q r;refine⟨C,H,_,?_,Hp.le.refl H,⟨rfl,rfl⟩,f.set hi n l (λc p=> .inl p)⟩;simp_all[Kt]
theorem Aho(K:NW P kt κ):BM P (.makeMap t C7) T E H O (λv d e=> ∃B,v= .map (Ac B)/\d=H/\e=Ks K B []::O):= .Ao λa w o g _ j i=>by
 refine⟨.map (Ac w.heap.size),w.alloc (.map #[] 0),H,Ks K w.heap.size []::O,?_,Hp.le.refl H,⟨_,rf,rf,rf⟩,i.push (IU.grownBy_alloc w _ C7) ?_ (λb f=>by grind[Ks,Aw.has])⟩;· simp[Kt,g,Go.RowKit.run_makeMap]
 ·exact⟨.map [],IU.ownsMap_made w P kt _,rfl,λk=>rfl,λk x h=>by cases h⟩
end
end
section
variable{P:GN}
def gy:Int->Nat
 | .ofNat n=>2*n
 | .negSucc n=>2*n+1
theorem gx:∀ {a b:Int},gy a=gy b->a=b
 | .ofNat n, .ofNat m,h=>by grind[gy]
 | .ofNat n, .negSucc m,h=>by grind[gy]
 | .negSucc n, .ofNat m,h=>by grind[gy]
 | .negSucc n, .negSucc m,h=>by grind[gy]
def np(m n:Nat):Nat:=(m+n)*(m+n)+m
theorem mX{m n a b:Nat}(h:m+n<a+b):np m n<np a b:=by have c:(m+n+1)*(m+n+1)<=(a+b)*(a+b):=Abv h h;grind[np]
theorem pK{m n a b:Nat}(h:np m n=np a b):m=a/\n=b:=by
 rcases Acx (m+n) (a+b)with e|e|e;· have:=mX e;omega
 ·grind[np]
 ·have:=mX e;omega
open Classical in
noncomputable def VL(x:Int×Int):Lit:=if DW x.1/\DW x.2 then .string (keyBytes [.int .i64 x.1, .int .i64 x.2])else .int .u8 ((np (gy x.1) (gy x.2):Nat):Int)
def h_:Option TypeDesc->Bool
 |some (.int .i64)=>Bp
 |_=>Aj
theorem V9{d:Option TypeDesc}(h:h_ d=Bp):d=Ac (.int .i64):=by grind[h_]
def OI(P:GN)(g:Gq):Bool:=(aX g P.types.size&&iT (P.types.size+2) 10000)&&(P.keyType g&&match P.underlying g with
 |some (.struct ⟨[a,b]⟩)=>Hh (P.cellsOf g) 2&&((Hh a.offset 0&&(Hh (P.cellsOf a.type) 1&&h_ (P.underlying a.type)))&&(Hh b.offset 1&&(Hh (P.cellsOf b.type) 1&&h_ (P.underlying b.type))))
 |_=>Aj)
theorem Lb{d:Nat}{t:Gq}{a:Int}(c:P.underlying t=Ac (.int .i64))(b:DW a):P.keyLits (d+1) t [.int .i64 a]=Ac [.int .i64 a]:=by unfold GN.keyLits;simp only[c];rw[if_pos ⟨trivial,vu b⟩]
theorem PO{P:GN}{g:Gq}(h:OI P g=Bp){a b:Int}(y:DW a)(z:DW b):keyOf P g (.agg #[.int .i64 a, .int .i64 b])=Ac (.string (keyBytes [.int .i64 a, .int .i64 b])):=by
 unfold OI at h;simp only[AT]at h;obtain⟨⟨q,D⟩,e,m⟩:=h;split at m
 ·rename_i j k n;simp only[AT]at m;obtain⟨c,⟨r,o,t⟩,s,p,u⟩:=m;have c:=AI c;have r:=AI r;have o:=AI o;have s:=AI s;have p:=AI p;have t:=V9 t;have u:=V9 u;have C:(⟨[j,k]⟩:Array _).all (λf=>f.name != "_")=Bp:=by
   unfold GN.keyType GN.keyTypeAt at e;rw[n]at e;simp only[AT]at e;have e:=e.1.1;simp at e⊢;exact⟨e.1.1,e.2.1⟩
  have q:g<P.types.size:=by simpa using q
  obtain⟨d,v⟩:∃d,P.types.size=d+1:=⟨P.types.size-1,(Nat.succ_pred_eq_of_pos (Aft (Abh _) q)).symm⟩;have B:P.keyLits (P.types.size+1) g [.int .i64 a, .int .i64 b]=Ac [.int .i64 a, .int .i64 b]:=by
   unfold GN.keyLits;simp only[n];rw[if_pos ⟨by rw[c];rfl,C⟩];have w:P.keyLits P.types.size j.type ((([.int .i64 a, .int .i64 b]:List BZ).drop j.offset).take (P.cellsOf j.type))=Ac [.int .i64 a]:=by rw[r,o,v];exact Lb t y
   have x:P.keyLits P.types.size k.type ((([.int .i64 a, .int .i64 b]:List BZ).drop k.offset).take (P.cellsOf k.type))=Ac [.int .i64 b]:=by rw[s,p,v];exact Lb u z
   simp[w,x]
  unfold keyOf;rw[n];have A:(P.keyType g&&(BZ.agg #[.int .i64 a, .int .i64 b]).formed P g)=Bp:=by rw[e,Ahi];unfold BZ.formed;rw[n];simp[c]
  rw[if_pos A];show(P.keyLits (P.types.size+1) g [.int .i64 a, .int .i64 b]).map _=_;grind
 grind
noncomputable def mkP{g:Gq}(n:laidOutB P=Bp)(h:OI P g=Bp):NW P g (Int×Int)where
 val x:= .agg #[.int .i64 x.1, .int .i64 x.2]
 lit:=VL
 ok x:=DW x.1/\DW x.2
 keyed:=by
  unfold OI at h;simp only[AT]at h;obtain⟨⟨a,c⟩,i,d⟩:=h;have a:g<P.types.size:=by simp_all
  have c:P.types.size+2<=10000:=by simp_all
  refine Maps.Keyed.of_law (deep_law_laid n (m:=P.types.size+1) (by omega) a i ?_);grind
 of x b:=by grind[VL,PO]
 key x:=by unfold VL;split<;>trivial
 inj x y e:=by
  unfold VL at e;split at e
  ·rename_i b;split at e
   ·rename_i o;have f:=h;unfold OI at f;simp only[AT]at f;obtain⟨⟨a,c⟩,i,d⟩:=f;have a:g<P.types.size:=by simpa using a
    have c:P.types.size+2<=10000:=by simpa using c
    have r:=deep_law_laid n (m:=P.types.size+1) (by omega) a i (by
     split at d;· rename_i j;rw[j]
     ·cases d);have l:=PO h b.1 b.2;rw[e]at l;have:=r.inj l (PO h o.1 o.2);simp at this;exact Acu this.1 this.2
   grind
  grind[np,gy,pK,Prod.ext,gx]
end
end Go.GV
namespace Go.GK
section
variable {w : IU} {H : Hp} {O : List Aw} {i : Nat} {v : BZ} {e e' : Gq} {n sz : Nat} {xs : List BZ} {rs : List (Option (Nat × List BZ))}
section
variable{α:Type}{j:Nat}{s:α}
def FU(e':Gq)(sz:Nat):List BZ->List (Option (Nat×List BZ))->List Aw
 |u::xs,Ac (m,ys)::rs=> .row u e' sz m ys::FU e' sz xs rs
 |_::xs,C7::rs=> .emp::FU e' sz xs rs
 |_,_=>[]
theorem Qk:∀ {xs:List BZ} {rs:List (Option (Nat×List BZ))} {a:Nat} {r:Aw},(FU e' sz xs rs)[a]?=Ac r->∃u,xs[a]?=Ac u/\((∃m ys,rs[a]?=Ac (Ac (m,ys))/\r= .row u e' sz m ys)\/r= .emp)
 |u::xs,Ac (m,ys)::rs,0,r,h=>by simp[FU]at h;exact⟨u,rfl, .inl ⟨m,ys,rfl,h.symm⟩⟩
 |u::xs,Ac (m,ys)::rs,a+1,r,h=>by have:=Qk (xs:=xs) (rs:=rs) (a:=a) (r:=r) (by simpa [FU]using h);simpa using this
 |u::xs,C7::rs,0,r,h=>by simp[FU]at h;exact⟨u,rfl, .inr h.symm⟩
 |u::xs,C7::rs,a+1,r,h=>by have:=Qk (xs:=xs) (rs:=rs) (a:=a) (r:=r) (by simpa [FU]using h);simpa using this
 | [],_,_,_,h=>by simp[FU]at h
 |_::_,[],_,_,h=>by simp[FU]at h
theorem Ql:∀ {xs:List BZ} {rs:List (Option (Nat×List BZ))} {a:Nat} {u:BZ} {m:Nat} {ys:List BZ},xs[a]?=Ac u->rs[a]?=Ac (Ac (m,ys))->(FU e' sz xs rs)[a]?=Ac (.row u e' sz m ys)
 |_::_,Ac (_,_)::_,0,_,_,_,h,k=>by simp at h k;obtain⟨rfl,rfl⟩:=k;subst h;rfl
 |_::_,C7::_,0,_,_,_,_,k=>by simp at k
 |_::xs,Ac (_,_)::rs,a+1,_,_,_,h,k=>by simp only[FU,Acq];exact Ql (by simpa using h) (by simpa using k)
 |_::xs,C7::rs,a+1,_,_,_,h,k=>by simp only[FU,Acq];exact Ql (by simpa using h) (by simpa using k)
 | [],_,_,_,_,_,h,_=>by simp at h
 |_::_,[],_,_,_,_,_,k=>by simp at k
theorem Qi:∀ {xs:List BZ} {rs:List (Option (Nat×List BZ))} {a:Nat} {u:BZ} {q:Nat×List BZ} {m:Nat} {ys:List BZ},xs[a]?=Ac u->rs[a]?=Ac (Ac q)->(FU e' sz xs rs).set a (.row u e' sz m ys)=FU e' sz xs (rs.set a (Ac (m,ys)))
 |_::_,Ac (_,_)::_,0,_,_,_,_,h,_=>by simp at h;subst h;rfl
 |_::_,C7::_,0,_,_,_,_,_,k=>by simp at k
 |_::xs,Ac (_,_)::rs,a+1,_,_,_,_,h,k=>by simp only[FU,Afv];rw[Qi (by simpa using h) (by simpa using k)]
 |_::xs,C7::rs,a+1,_,_,_,_,h,k=>by simp only[FU,Afv];rw[Qi (by simpa using h) (by simpa using k)]
 | [],_,_,_,_,_,_,h,_=>by simp at h
 |_::_,[],_,_,_,_,_,_,k=>by simp at k
theorem Cf{O:List α}{r:α}(h:(O.set i r)[j]?=Ac s):(j=i/\s=r)\/(j≠i/\O[j]?=Ac s):=by
 rw[Adt]at h;by_cases e:i=j
 ·subst e;by_cases a:i<O.length;· simp[a]at h;exact .inl ⟨rfl,h.symm⟩
  ·simp[a]at h
 ·simp[e]at h;exact .inr ⟨λx=>e x.symm,h⟩
theorem Pc{A B:List α}(h:(A++B)[j]?=Ac s):(j<A.length/\A[j]?=Ac s)\/∃a,j=A.length+a/\B[a]?=Ac s:=by
 by_cases b:j<A.length;· rw[Pe b]at h;exact .inl ⟨b,h⟩
 ·rw[Aab (by omega)]at h;exact .inr ⟨j-A.length,by omega,h⟩
theorem SH.flat(h:SH w H O)(hi:O[i]?=Ac (.Ck v e n xs e' sz rs)):SH w H (O.set i (.row v e 1 n xs)++FU e' sz xs rs):=by
 have F:IE w v e n xs e' sz rs:=h.ok i _ hi;have key:∀j r,(O.set i (.row v e 1 n xs)++FU e' sz xs rs)[j]?=Ac r->(j≠i/\j<O.length/\O[j]?=Ac r)\/(j=i/\r= .row v e 1 n xs)\/∃a u,j=O.length+a/\xs[a]?=Ac u/\((∃m l,rs[a]?=Ac (Ac (m,l))/\r= .row u e' sz m l)\/r= .emp):=λj r s=>by
  rcases Pc s with⟨d,f⟩|⟨a,d,f⟩
  ·rcases Cf f with⟨o,p⟩|⟨o,p⟩;· exact .inr (.inl ⟨o,p⟩)
   ·exact .inl ⟨o,by simpa using d,p⟩
  ·obtain⟨u,o,p⟩:=Qk f;exact .inr (.inr ⟨a,u,by simpa using d,o,p⟩)
 refine⟨h.MU,h.os,h.output,h.tape,λj r s=>?_,λj r b s g=>?_,λj k r q b s G g c=>?_⟩
 ·rcases key j r s with⟨_,_,d⟩|⟨_,rfl⟩|⟨a,u,_,d,⟨m,l,f,rfl⟩|rfl⟩;· exact h.ok j r d
  ·exact F.top
  ·exact F.row a u m l d f
  ·trivial
 ·rcases key j r s with⟨_,_,d⟩|⟨_,rfl⟩|⟨a,u,_,d,⟨m,l,f,rfl⟩|rfl⟩;· exact h.Iy j r b d g
  ·exact h.Iy i _ b hi (.inl g)
  ·exact h.Iy i _ b hi (.inr ⟨a,u,m,l,d,f,g⟩)
  ·exact g.elim
 ·have y:∀ {j k:Nat} {r q:Aw},(j≠i/\j<O.length/\O[j]?=Ac r)->r.has b->((k=i/\q= .row v e 1 n xs)\/∃a u,k=O.length+a/\xs[a]?=Ac u/\((∃m l,rs[a]?=Ac (Ac (m,l))/\q= .row u e' sz m l)\/q= .emp))->q.has b->False:=λ{j k r q} d g f c=>by
   rcases f with⟨_,rfl⟩|⟨a,u,_,o,⟨m,l,p,rfl⟩|rfl⟩;· exact d.1 (h.nd j i _ _ b d.2.2 hi g (.inl c))
   ·exact d.1 (h.nd j i _ _ b d.2.2 hi g (.inr ⟨a,u,m,l,o,p,c⟩))
   ·exact c.elim
  rcases key j r s with d|d
  ·rcases key k q G with f|f;· exact h.nd j k r q b d.2.2 f.2.2 g c
   ·exact(y d g f c).elim
  ·rcases key k q G with f|f;· exact(y f c d g).elim
   ·rcases d with⟨A,rfl⟩|⟨a,u,A,o,⟨m,l,p,rfl⟩|rfl⟩
    ·rcases f with⟨x,rfl⟩|⟨z,E,x,B,⟨D,t,C,rfl⟩|rfl⟩;· rw[A,x]
     ·exact absurd g (F.out z E D t b B C c)
     ·exact c.elim
    ·rcases f with⟨x,rfl⟩|⟨z,E,x,B,⟨D,t,C,rfl⟩|rfl⟩;· exact absurd c (F.out a u m l b o p g)
     ·rw[A,x,F.one a z u E m D l t b o p B C g c]
     ·exact c.elim
    ·exact g.elim
theorem SH.TR(D:i<O.length)(h:SH w H (O.set i (.row v e 1 n xs)++FU e' sz xs rs)):SH w H (O.set i (.Ck v e n xs e' sz rs)):=by
 have top:(O.set i (.row v e 1 n xs)++FU e' sz xs rs)[i]?=Ac (.row v e 1 n xs):=by rw[Pe (by simpa using D)];simp[D]
 have l:∀ {a:Nat} {u:BZ} {m:Nat} {t:List BZ},xs[a]?=Ac u->rs[a]?=Ac (Ac (m,t))->(O.set i (.row v e 1 n xs)++FU e' sz xs rs)[O.length+a]?=Ac (.row u e' sz m t):=λd f=>by rw[Aab (by simp)];simp only[Abq,Acg];exact Ql d f
 have o:∀ {j:Nat} {r:Aw},j≠i->O[j]?=Ac r->(O.set i (.row v e 1 n xs)++FU e' sz xs rs)[j]?=Ac r:=λ{j r} s y=>by have A:=(IT.1 y).1;rw[Pe (by simpa using A),Adt,if_neg (λe=>s e.symm)];exact y
 have lt:∀ {j:Nat} {r:Aw},O[j]?=Ac r->j<O.length:=λy=>(IT.1 y).1;refine⟨h.MU,h.os,h.output,h.tape,λj r s=>?_,λj r b s g=>?_,λj k r z b s C g c=>?_⟩
 ·rcases Cf s with⟨_,rfl⟩|⟨d,f⟩
  ·refine⟨h.ok i _ top,λa u m t d f=>h.ok _ _ (l d f),λa I u K m J t G b d f p q g c=>?_,λa u m t b d f g c=>?_⟩;· have:=h.nd _ _ _ _ b (l d f) (l p q) g c;omega
   ·have:=h.nd _ _ _ _ b top (l d f) c g;omega
  ·exact h.ok _ _ (o d f)
 ·rcases Cf s with⟨_,rfl⟩|⟨d,f⟩
  ·rcases g with g|⟨a,u,m,t,d,f,g⟩;· exact h.Iy _ _ b top g
   ·exact h.Iy _ _ b (l d f) g
  ·exact h.Iy _ _ b (o d f) g
 ·have x:∀ {k:Nat} {z:Aw},k≠i->O[k]?=Ac z->(Aw.Ck v e n xs e' sz rs).has b->z.has b->False:=λ{k z} d f g c=>by
   rcases g with g|⟨a,u,m,t,p,q,g⟩;· exact d (h.nd _ _ _ _ b (o d f) top c g)
   ·have:=h.nd _ _ _ _ b (o d f) (l p q) c g;have:=lt f;omega
  rcases Cf s with⟨E,rfl⟩|⟨d,f⟩
  ·rcases Cf C with⟨B,rfl⟩|⟨p,q⟩;· rw[E,B]
   ·exact(x p q g c).elim
  ·rcases Cf C with⟨B,rfl⟩|⟨p,q⟩;· exact(x d f c g).elim
   ·exact h.nd _ _ _ _ b (o d f) (o p q) g c
end
end
end Go.GK
namespace Go.GV
open Go Go.GK
inductive PX(T:Nat->Type)where
 |sub (i n:Nat) (t:Ty)
 |sf
 |dx (t:Ty) (x:List (t.den T))
 |any
 |ub
 |sd (m:Nat)
 |hc (n:Nat)
 |fo (i:Nat)
 |fi (i:Nat)
 |fe (i j:Nat) (t:Ty)
inductive SV(T:Nat->Type)where
 |d (t:Ty) (x:t.den T)
 |na (n:Nat)
 |ct (i n:Nat)
 |cb (i n:Nat)
 |lt (i n m:Nat)
 |lb (b:Bool)
 |raw (v:BZ)
 |ud
 |no
 |loc (k off:Nat)
 |AH (k:Nat)
 |Ec (k:Nat) (i:Int) (off:Nat) (t:Ty) (x:t.den T)
 |pd (t:Ty) (x:t.den T) (off:Nat)
 |mp (k:Nat)
 |lf (s:Nat) (a l:SV T)
 |nl
 |t2 (a b:SV T)
 |t3 (a b c:SV T)
 |AK (f:Nat) (l:SV T) (cs:List Nat)
 |vn
 |vc (a l:SV T)
 |px (ks:List Nat) (p:PX T)
 |Cw (j:Nat)
inductive SR(T:Nat->Type)where
 |Ai (g:Gq) (l:SV T)
 |row (g:Gq) (t:Ty) (l:List (t.den T))
 |Cw (j:Nat)
 |gone
 |map (g:Gq) (kt vt:Ty) (l:List (kt.den T×vt.den T))
 |Ck (g e:Gq) (t:Ty) (h:Nat) (l:List (Bool×List (t.den T)))
def Ay{α:Type} :List (Nat×α)->Nat->Option α
 | [],_=>C7
 |(k,v)::l,t=>match Hh k t with
  |true=>Ac v
  |false=>Ay l t
def SV.AJ{T:Nat->Type} :SV T->List Nat
 | .loc k _| .AH k| .Ec k _ _ _ _| .mp k=>[k]
 | .lf _ a l=>a.AJ++l.AJ
 | .t2 a b=>a.AJ++b.AJ
 | .t3 a b c=>a.AJ++(b.AJ++c.AJ)
 | .AK _ l e=>l.AJ++e
 | .vc a l=>a.AJ++l.AJ
 | .px g _=>g
 |_=>[]
def SR.AJ{T:Nat->Type} :SR T->List Nat
 | .Ai _ l=>l.AJ
 | .Ck _ _ _ h _=>[h]
 |_=>[]
abbrev Q_:Nat:=9223372036854775807
section
variable {N : C9}
def CL(t:Ty)(cs:List BZ)(v:BZ):Prop:=match t.agg with
 |true=>v= .agg cs.toArray
 |false=>cs=[v]
def PX.is(us:List BZ)(H:Hp):PX N.T->BZ->Prop
 | .sub i n t,v=> ∃a m c,us=[.slice (Ac a) m c]/\i+n<=m/\v= .slice (Ac (a.add (i*t.sz N))) n n
 | .sf,v=>v= .pointer C7\/∃B,us=[ptr B 0]/\v=ptr B 0
 | .any,_=>True
 | .ub,v=> ∃b,v= .bool b
 | .sd m,v=>(∃p,v= .pointer p)/\(0<m->∃u,us=[u]/\v=AL u 0)
 | .fo i,v=> ∃a n c,us=[.slice (Ac a) n c]/\i<n/\v=AL (.slice (Ac a) n c) i
 | .fi i,v=> ∃d u,us=[.tuple d,u]/\d[i]?=Ac v
 | .fe i j t,v=> ∃d u x,us=[.tuple d,u]/\d[i]?=Ac x/\v=AL x (j*t.sz N)
 | .hc n,v=>n<=Q_/\∃B,us=[ptr B 0]/\v= .slice (Ac ⟨B,0,C7⟩) n n
 | .dx t x,v=>(∃a,v= .slice a x.length x.length)/\∃e,(N.c (.sl t)).BP H x e/\CL (.sl t) e v
theorem PX.mono{us:List BZ}{H a:Hp}(f:H.le a):∀ {p:PX N.T} {v:BZ},p.is us H v->p.is us a v
 | .sub _ _ _,_,h=>h
 | .sf,_,h=>h
 | .any,_,h=>h
 | .ub,_,h=>h
 | .sd _,_,h=>h
 | .hc _,_,h=>h
 | .fo _,_,h=>h
 | .fi _,_,h=>h
 | .fe _ _ _,_,h=>h
 | .dx t x,v,⟨c,b,d,e⟩=>⟨c,b,(N.c (.sl t)).mono f d,e⟩
def SV.BS(g:Nat->BZ->Prop)(η:Nat->BZ)(H:Hp):SV N.T->BZ->Prop
 | .d t x,v=> ∃h,(N.c t).BP H x h/\CL t h v
 | .na n,v=>v= .int .i64 n/\n<=Q_
 | .ct _ n,v=>v= .int .i64 n/\n<=Q_
 | .cb _ n,v=>v= .int .i64 n/\n<Q_
 | .lt _ n m,v=>v= .bool (Dl ((n:Int)<(m:Int)))/\m<=Q_
 | .lb b,v=>v= .bool b
 | .raw u,v=>v=u
 | .ud,v=>v=undef
 | .no,_=>True
 | .loc k off,v=> ∃B,η k=ptr B 0/\v=ptr B off
 | .AH k,v=>v=η k/\v.oneCell'=Bp
 | .Ec k i off t _,v=>v=AL (η k) (i.toNat*t.sz N+off)/\∃a n c,η k= .slice (Ac a) n c
 | .pd t x off,v=> ∃(a:Addr) (k:Nat) (h:List BZ),v= .pointer (Ac (a.add (k+off)))/\(N.c t).BP H x h/\∀j u,h[j]?=Ac u->DV H (.pointer (Ac (a.add (k+j)))) u
 | .mp k,v=>v=η k/\v.oneCell'=Bp
 | .lf s a l,v=> ∃q w u,v= .agg (q++w).toArray/\q.length=s/\a.BS g η H u/\u.cells.toList=q/\(∀x∈q,x.oneCell'=Bp)/\l.BS g η H (.agg w.toArray)
 | .nl,v=>v= .agg #[]
 | .t2 a b,v=> ∃x y,v= .tuple #[x,y]/\a.BS g η H x/\b.BS g η H y
 | .t3 a b c,v=> ∃x y z,v= .tuple #[x,y,z]/\a.BS g η H x/\b.BS g η H y/\c.BS g η H z
 | .AK f l h,v=> ∃o:List BZ,v= .func (.func f) o.toArray (h.map η).toArray/\l.BS g η H (.tuple o.toArray)
 | .vn,v=>v= .tuple #[]
 | .vc a l,v=> ∃(u:BZ) (o:List BZ),v= .tuple (u::o).toArray/\a.BS g η H u/\l.BS g η H (.tuple o.toArray)
 | .px E p,v=>p.is (E.map η) H v
 | .Cw j,v=>g j v
def SV.is(C:List (SV N.T))(η:Nat->BZ)(H:Hp):SV N.T->BZ->Prop:=SV.BS (λj v=> ∃s,C[j]?=Ac s/\SV.BS (λ_ _=>False) η H s v) η H
section
variable{H:Hp}
theorem SV.BS.imp{g p:Nat->BZ->Prop}{η:Nat->BZ}{H:Hp}(e:∀j v,g j v->p j v):∀ {s:SV N.T} {v:BZ},s.BS g η H v->s.BS p η H v
 | .d t x,v,h=>h
 | .na _,_,h=>h
 | .ct _ _,_,h=>h
 | .cb _ _,_,h=>h
 | .lt _ _ _,_,h=>h
 | .lb _,_,h=>h
 | .raw _,_,h=>h
 | .ud,_,h=>h
 | .no,_,h=>h
 | .loc _ _,_,h=>h
 | .AH _,_,h=>h
 | .Ec _ _ _ _ _,_,h=>h
 | .pd t x off,v,h=>h
 | .mp _,_,h=>h
 | .lf s a l,v,⟨q,r,u,i,k,m,n,B,C⟩=>⟨q,r,u,i,k,SV.BS.imp e m,n,B,SV.BS.imp e C⟩
 | .nl,_,h=>h
 | .t2 a b,v,⟨x,y,i,k,m⟩=>⟨x,y,i,SV.BS.imp e k,SV.BS.imp e m⟩
 | .t3 a b c,v,⟨x,y,z,i,k,m,n⟩=>⟨x,y,z,i,SV.BS.imp e k,SV.BS.imp e m,SV.BS.imp e n⟩
 | .AK f l J,v,⟨o,i,k⟩=>⟨o,i,SV.BS.imp e k⟩
 | .vn,_,h=>h
 | .vc a l,v,⟨u,o,i,k,m⟩=>⟨u,o,i,SV.BS.imp e k,SV.BS.imp e m⟩
 | .px _ _,_,h=>h
 | .Cw j,v,h=>e j v h
def Eu(a:Ty)(H:Hp){κ:Type} :List (κ×a.den N.T)->List (κ×BZ)->Prop
 | [],[]=>True
 |p::l,q::m=>p.1=q.1/\(∃b,(N.c a).BP H p.2 b/\CL a b q.2)/\Eu a H l m
 |_,_=>False
theorem Eu.mono{a:Ty}{H b:Hp}(c:H.le b){κ:Type} :∀ {l:List (κ×a.den N.T)} {m:List (κ×BZ)},Eu a H l m->Eu a b l m
 | [],[],h=>h
 |p::l,q::m,⟨e,⟨d,f,g⟩,i⟩=>⟨e,⟨d,(N.c a).mono c f,g⟩,Eu.mono c i⟩
 | [],_::_,h=>h.elim
 |_::_,[],h=>h.elim
def RV(H:Hp)(B:Nat)(g:Gq)(b:Ty):(c:Ty)->List (c.den N.T×b.den N.T)->Aw->Prop
 | .str,l,r=> ∃(P:GN) (K:NW P g Aq) (a:List (Aq×BZ)),N.prog=Ac P/\(∀x,K.val x=sv x)/\(∀x,x.length<=Ah->K.ok x)/\r=Ks K B a/\Eu (κ:=Aq) b H l a
 | .int .i64,l,r=> ∃(P:GN) (K:NW P g Int) (a:List (Int×BZ)),N.prog=Ac P/\(∀x,K.val x= .int .i64 x)/\(∀x,DW x->K.ok x)/\r=Ks K B a/\Eu (κ:=Int) b H l a
 | .st (.pr (.int .i64) (.int .i64)),l,r=> ∃(P:GN) (K:NW P g (Int×Int)) (a:List ((Int×Int)×BZ)),N.prog=Ac P/\(∀x,K.val x= .agg #[.int .i64 x.1, .int .i64 x.2])/\(∀x,DW x.1/\DW x.2->K.ok x)/\r=Ks K B a/\Eu (κ:=Int×Int) b H l a
 |_,_,_=>False
theorem RV.mono{m:Hp}(i:H.le m){B:Nat}{g:Gq}{k j:Ty}{l:List (j.den N.T×k.den N.T)}{r:Aw}(h:RV H B g k j l r):RV m B g k j l r:=by
 unfold RV at h;split at h;· obtain⟨P,K,f,a,b,c,d,e⟩:=h;exact⟨P,K,f,a,b,c,d,e.mono i⟩
 ·obtain⟨P,K,f,a,b,c,d,e⟩:=h;exact⟨P,K,f,a,b,c,d,e.mono i⟩
 ·obtain⟨P,K,f,a,b,c,d,e⟩:=h;exact⟨P,K,f,a,b,c,d,e.mono i⟩
 grind
structure NX{α:Type}(c:Cd α)(H:Hp)(l:List (Bool×List α))(xs:List BZ)(rs:List (Option (Nat×List BZ))):Prop where
 len:xs.length=l.length
 PE:rs.length=l.length
 own:∀(i:Nat) (d:List α),l[i]?=Ac (Bp,d)->∃ys,rs[i]?=Ac (Ac (d.length,ys))/\A2 c H d ys
 not:∀(i:Nat) (d:List α),l[i]?=Ac (Aj,d)->rs[i]?=Ac C7
theorem NX.mono{α:Type}{c:Cd α}{a:Hp}(g:H.le a){l:List (Bool×List α)}{xs:List BZ}{rs:List (Option (Nat×List BZ))}(h:NX c H l xs rs):NX c a l xs rs:=
 ⟨h.len,h.PE,λi d f=>by obtain⟨j,b,e⟩:=h.own i d f;exact⟨j,b,e.mono g⟩,h.not⟩
def SR.is(C:List (SV N.T))(η:Nat->BZ)(H:Hp)(k:Nat):SR N.T->Aw->Prop
 | .Ai g l,r=> ∃B b,η k=ptr B 0/\r= .Ai B (.cells b g (0,0))/\l.is C η H (.agg b)
 | .row g t l,r=> ∃a,r= .row (η k) g (t.sz N) l.length a/\A2 (N.c t) H l a
 | .Cw _,_=>False
 | .gone,_=>False
 | .map g f i l,r=> ∃B,η k= .map (Ac B)/\RV H B g i f l r
 | .Ck g e t h l,r=> ∃a c,r= .Ck (η k) g l.length a e (t.sz N) c/\η h= .tuple a.toArray/\NX (N.c t) H l a c
end
section
variable{η:Nat->BZ}{H:Hp}{T:Nat->Type}{C:List (SV N.T)}{η':Nat->BZ}{k:Nat}{r:Aw}{s:SV N.T}{v:BZ}
theorem SV.BS.mono{g:Nat->BZ->Prop}{η:Nat->BZ}{H r:Hp}(e:H.le r):∀ {s:SV N.T} {v:BZ},s.BS g η H v->s.BS g η r v
 | .d t x,v,⟨o,i,m⟩=>⟨o,(N.c t).mono e i,m⟩
 | .na _,_,h=>h
 | .ct _ _,_,h=>h
 | .cb _ _,_,h=>h
 | .lt _ _ _,_,h=>h
 | .lb _,_,h=>h
 | .raw _,_,h=>h
 | .ud,_,h=>h
 | .no,_,h=>h
 | .loc _ _,_,h=>h
 | .AH _,_,h=>h
 | .Ec _ _ _ _ _,_,h=>h
 | .pd t x off,v,⟨b,k,o,i,m,n⟩=>⟨b,k,o,i,(N.c t).mono e m,λj u G=>(n j u G).mono e⟩
 | .mp _,_,h=>h
 | .lf s a l,v,⟨w,A,u,i,m,n,p,D,E⟩=>⟨w,A,u,i,m,SV.BS.mono e n,p,D,SV.BS.mono e E⟩
 | .nl,_,h=>h
 | .t2 a b,v,⟨x,y,i,m,n⟩=>⟨x,y,i,SV.BS.mono e m,SV.BS.mono e n⟩
 | .t3 a b c,v,⟨x,y,z,i,m,n,p⟩=>⟨x,y,z,i,SV.BS.mono e m,SV.BS.mono e n,SV.BS.mono e p⟩
 | .AK f l o,v,⟨q,i,m⟩=>⟨q,i,SV.BS.mono e m⟩
 | .vn,_,h=>h
 | .vc a l,v,⟨u,q,i,m,n⟩=>⟨u,q,i,SV.BS.mono e m,SV.BS.mono e n⟩
 | .px _ _,_,h=>PX.mono e h
 | .Cw _,_,h=>h
theorem SV.is.mono{a:Hp}(b:H.le a)(h:s.is C η H v):s.is C η a v:=SV.BS.imp (λ_ _ ⟨s,e,h⟩=>⟨s,e,SV.BS.mono b h⟩) (SV.BS.mono b h)
theorem SV.BS.env{g:Nat->BZ->Prop}{η η':Nat->BZ}{H:Hp} :∀ {s:SV N.T} {v:BZ},(∀k∈s.AJ,η' k=η k)->s.BS g η H v->s.BS g η' H v
 | .d t x,v,_,h=>h
 | .na _,_,_,h=>h
 | .ct _ _,_,_,h=>h
 | .cb _ _,_,_,h=>h
 | .lt _ _ _,_,_,h=>h
 | .lb _,_,_,h=>h
 | .raw _,_,_,h=>h
 | .ud,_,_,h=>h
 | .no,_,_,h=>h
 | .loc k _,_,e,h=>by grind[SV.BS,SV.AJ]
 | .AH k,_,e,h=>by grind[SV.BS,SV.AJ]
 | .Ec k _ _ _ _,_,e,h=>by grind[SV.BS,SV.AJ]
 | .pd t x off,v,_,h=>h
 | .mp k,_,e,h=>by grind[SV.BS,SV.AJ]
 | .lf s a l,v,e,⟨w,A,u,j,m,n,o,E,F⟩=>⟨w,A,u,j,m,SV.BS.env (λk i=>e k (by grind[SV.AJ])) n,o,E,SV.BS.env (λk i=>e k (by grind[SV.AJ])) F⟩
 | .nl,_,_,h=>h
 | .t2 a b,v,e,⟨x,y,j,m,n⟩=>⟨x,y,j,SV.BS.env (λk i=>e k (by grind[SV.AJ])) m,SV.BS.env (λk i=>e k (by grind[SV.AJ])) n⟩
 | .t3 a b c,v,e,⟨x,y,z,j,m,n,o⟩=>⟨x,y,z,j,SV.BS.env (λk i=>e k (by grind[SV.AJ])) m,SV.BS.env (λk i=>e k (by grind[SV.AJ])) n,SV.BS.env (λk i=>e k (by grind[SV.AJ])) o⟩
 | .AK f l M,v,e,⟨r,j,m⟩=>⟨r,by simp_all[SV.AJ],SV.BS.env (λk i=>e k (by grind[SV.AJ])) m⟩
 | .vn,_,_,h=>h
 | .vc a l,v,e,⟨u,r,j,m,n⟩=>⟨u,r,j,SV.BS.env (λk i=>e k (by grind[SV.AJ])) m,SV.BS.env (λk i=>e k (by grind[SV.AJ])) n⟩
 | .px q p,v,e,h=>by have D:q.map η'=q.map η:=Abs λk i=>e k (by trivial);show p.is (q.map η') H v;rw[D];exact h
 | .Cw _,_,_,h=>h
def CW{T:Nat->Type}(C:List (SV T)):List Nat:=C.flatMap SV.AJ
theorem XF{C:List (SV T)}{j:Nat}{s:SV T}(a:C[j]?=Ac s)(h:k∈s.AJ):k∈CW C:=Aad.2 ⟨s,Aai a,h⟩
theorem SV.is.env(a:∀k∈CW C,η' k=η k)(c:∀k∈s.AJ,η' k=η k)(h:s.is C η H v):s.is C η' H v:=
 SV.BS.imp (λ_ _ ⟨s,e,h⟩=>⟨s,e,SV.BS.env (λk b=>a k (XF e b)) h⟩) (SV.BS.env c h)
theorem SR.is.mono{i:Hp}(c:H.le i){s:SR N.T}(h:s.is C η H k r):s.is C η i k r:=by
 cases s with
 |Ai g l=>obtain⟨B,m,a,b,d⟩:=h;exact⟨B,m,a,b,d.mono c⟩
 |row g t l=>obtain⟨f,a,b⟩:=h;exact⟨f,a,b.mono c⟩
 |Cw j=>exact h
 |gone=>exact h
 |map g q u l=>obtain⟨B,a,b⟩:=h;exact⟨B,a,b.mono c⟩
 |Ck g e t p l=>obtain⟨f,o,a,b,d⟩:=h;exact⟨f,o,a,b,d.mono c⟩
theorem SR.is.env{s:SR N.T}(c:η' k=η k)(n:∀k∈CW C,η' k=η k)(e:∀k∈s.AJ,η' k=η k)(h:s.is C η H k r):s.is C η' H k r:=by
 cases s with
 |Ai g l=>obtain⟨B,i,a,b,d⟩:=h;exact⟨B,i,c.trans a,b,d.env n e⟩
 |row g t l=>obtain⟨f,a,b⟩:=h;exact⟨f,by grind,b⟩
 |Cw j=>exact h
 |gone=>exact h
 |map g u v l=>obtain⟨B,a,b⟩:=h;exact⟨B,c.trans a,b⟩
 |Ck g q t o l=>obtain⟨f,p,a,b,d⟩:=h;exact⟨f,p,by grind,(e o (by simp[SR.AJ])).trans b,d⟩
structure St(T:Nat->Type)where
 L:List (Nat×SV T)
 O:List (Nat×SR T)
 nk:Nat
structure Bx(T:Nat->Type)where
 sv:SV T
 rd:List Nat
 wr:List (Nat×SR T)
def res{T:Nat->Type}(C:List (SV T)):SV T->SV T
 | .Cw j=>C.getD j .no
 |s=>s
def Cv(C:List (SV T))(L:List (Nat×SV T))(t:Nat):SV T:=match Ay L t with
 |some s=>res C s
 |none=> .no
def ofConst:BZ->SV T
 | .bool b=> .lb b
 |v=> .raw v
def Ax(S:Nat->SV T):DQ->SV T
 | .tmp t=>S t
 | .const v=>ofConst v
 | .global _=> .no
 | .func f=> .AK f .vn []
theorem Ue(v:BZ):(ofConst (T:=N.T) v).is C η H v:=by unfold ofConst;split<;>simp[SV.is,SV.BS]
theorem ET{C:List (SV N.T)}{η:Nat->BZ}{H:Hp}{s:SV N.T}{v:BZ}(h:s.is C η H v):(res C s).is C η H v:=by
 unfold res;split;· obtain⟨s,e,h⟩:=h;rw[Aaa,e];exact SV.BS.imp (λ_ _ h=>h.elim) h
 omega
theorem bW{S:Nat->SV N.T}{a:Act}{x:DQ}(h:∀t,x= .tmp t->(S t).is C η H (a.tmps.getD t undef)):(Ax S x).is C η H (a.eval x):=by
 cases x with
 |tmp t=>exact h t rfl
 |const v=>exact Ue v
 |global g=>trivial
 |func f=>exact⟨[],rfl,rfl⟩
end
end
section
variable{k:Nat}{Y:List (Nat×Aw)}{r x:Aw}
def keys{α:Type}(Y:List (Nat×α)):List Nat:=Y.map (·.1)
theorem A4{α:Type}{Y:List (Nat×α)}{k:Nat}{x:α}(h:Ay Y k=Ac x):(k,x)∈Y:=by
 induction Y with
 |nil=>cases h
 |cons p Y b=>
  grind[Ay,aU,List.mem_cons_of_mem]
theorem Cz{α:Type}{Y:List (Nat×α)}{k:Nat}(h:k∉keys Y):Ay Y k=C7:=by
 cases a:Ay Y k with
 |none=>rfl
 |some x=>exact absurd (By.2 ⟨_,A4 a,rfl⟩) h
theorem Dm{α:Type}{Y:List (Nat×α)}{k:Nat}{x:α}(h:Ay Y k=Ac x):k∈keys Y:=By.2 ⟨_,A4 h,rfl⟩
theorem Ds{α:Type}{Y:List (Nat×α)}(h:k∈keys Y):∃x,Ay Y k=Ac x:=by
 induction Y with
 |nil=>cases h
 |cons p Y b=>
  obtain⟨q,y⟩:=p;simp only[keys,Aas,Aav]at h;simp only[Ay];cases a:Hh q k with
  |true=>simp
  |false=>
   rcases h with e|h;· simp_all
   ·exact b h
theorem CK{α:Type}{Y:List (Nat×α)}(b:(keys Y).Nodup){k:Nat}{x:α}(h:(k,x)∈Y):Ay Y k=Ac x:=by
 induction Y with
 |nil=>grind
 |cons p Y f=>
  obtain⟨q,y⟩:=p;simp only[keys,Aas,Aaz]at b;simp only[Ay];rcases Aav.1 h with e|h;· simp_all
  ·have:Hh q k=Aj:=by
    grind[Hh,absurd,aU]
   rw[this];exact f b.2 h
theorem BT{α:Type}(A B:List (Nat×α))(k:Nat):Ay (A++B) k=match Ay A k with|some x=>Ac x|none=>Ay B k:=by
 induction A with
 |nil=>rfl
 |cons p A a=>
  grind[Ay]
theorem CF{α:Type}(k:Nat)(v:α)(l:List (Nat×α)):Ay ((k,v)::l) k=Ac v:=by simp[Ay]
theorem A3{α:Type}{q k:Nat}(h:q≠k)(v:α)(l:List (Nat×α)):Ay ((q,v)::l) k=Ay l k:=by grind[Hh,absurd,Ay,aU]
def Ij(Y:List (Nat×Aw))(k:Nat)(r:Aw):List (Nat×Aw):=Y.map λp=>(p.1,match Hh p.1 k with|true=>r|false=>p.2)
theorem EL(Y:List (Nat×Aw))(k:Nat)(r:Aw):keys (Ij Y k r)=keys Y:=by simp[keys,Ij]
theorem Q8(h:Ay Y k=Ac x):Ay (Ij Y k r) k=Ac r:=by
 induction Y with
 |nil=>cases h
 |cons p Y b=>
  grind[Ij,Ay,Hh]
theorem Pq{j:Nat}(h:j≠k):Ay (Ij Y k r) j=Ay Y j:=by
 induction Y with
 |nil=>rfl
 |cons p Y b=>
  grind[Ij,Ay,Hh,absurd,aU]
theorem Jj(Of:List Aw)(c:(keys Y).Nodup)(h:Ay Y k=Ac x):∃i,(Y.map (·.2)++Of)[i]?=Ac x/\∀r,(Y.map (·.2)++Of).set i r=(Ij Y k r).map (·.2)++Of:=by
 induction Y with
 |nil=>cases h
 |cons p Y g=>
  obtain⟨q,y⟩:=p;simp only[Ay]at h;simp only[keys,Aas,Aaz]at c;cases a:Hh q k with
  |true=>
   rw[a]at h;cases h;have:=AI a;refine⟨0,rfl,λr=>?_⟩;simp only[Aas,Aer,Ahy,Ij,Agn];grind[Hh,absurd,List.map_map,Alx,aU]
  |false=>
   rw[a]at h;obtain⟨i,d,e⟩:=g c.2 h;refine⟨i+1,by simpa using d,λr=>?_⟩;grind[Ij]
end
section
variable {N : C9} {C : List (SV N.T)}
section
variable{P:GN}{S:Nat->SV N.T}{R:Nat->Option (SR N.T)}{o:K7}{k:Nat}
def DU(C:List (SV N.T))(η:Nat->BZ)(H:Hp)(Y:List (Nat×Aw))(k:Nat)(a:SR N.T):Prop:=a= .gone\/∃x,Ay Y k=Ac x/\a.is C η H k x
def Ap(P:GN)(C:List (SV N.T))(S:Nat->SV N.T)(R:Nat->Option (SR N.T))(o:K7)(s:Bx N.T):Prop:= ∀(η:Nat->BZ) (H:Hp) (g:List Aw) (a:Act) (w:IU) (Y:List (Nat×Aw)),(keys Y).Nodup->SH w H (Y.map (·.2)++g)->N.inv H->(∀x∈o.op.operands,(Ax S x).is C η H (a.eval x))->(∀k,(k∈s.rd\/k∈keys s.wr)->∀e,R k=Ac e->DU C η H Y k e)->(∀k∈keys s.wr,R k=C7->k∉keys Y)->∀(K:Act->IU->Prop) (Q:Exit->Act->IU->Prop),(∀(v:BZ) (h:IU) (f:Hp) (c:Nat->BZ) (d:List (Nat×Aw)),H.le f->(∀k,(R k=C7->k∉keys s.wr)->c k=η k)->(∀k,k∉keys s.wr->Ay d k=Ay Y k)->(∀k e,Ay s.wr k=Ac e->DU C c f d k e)->(keys d).Nodup->(∀k∈keys d,k∈keys Y\/k∈keys s.wr)->SH h f (d.map (·.2)++g)->s.sv.is C c f v->K (a.put o.dst v) h)->o.wp P a w K Q
abbrev EV(a:Act):DQ->Option BZ:=λx=>Ac (a.eval x)
theorem Abu{sv:SV N.T}{m:List Nat}
  (h:∀(η:Nat->BZ) (H:Hp) (O:List Aw) (a:Act),(∀x∈o.op.operands,(Ax S x).is C η H (a.eval x))->(∀k∈m,∀b,R k=Ac b->b= .gone\/∃(x:Aw) (i:Nat),O[i]?=Ac x/\b.is C η H k x)->∃v,Au P o.op o.type (EV a) H O v/\sv.is C η H v):
  Ap P C S R o ⟨sv,m,[]⟩:=by
 intro η H g a w Y j l B z y _ K Q t;obtain⟨v,r,s⟩:=h η H (Y.map (·.2)++g) a z λk c b d=>(y k (.inl c) b d).imp id λ⟨x,n,p⟩=>by obtain⟨i,q,_⟩:=Jj g j n;grind
 refine Aez (r a w o rfl rfl (λx u e=>by grind) l) l λA f=>?_;exact t v A H η Y (Hp.le.refl H) (λ_ _=>rfl) (λ_ _=>rfl) (λk b h=>by cases h) j (λk c=> .inl c) f s
theorem Afy{sv:SV N.T}{t:List Nat}{g y:SR N.T}(J:R k=Ac g)(h0:g≠ .gone)
  (h:∀(η:Nat->BZ) (H:Hp) (O:List Aw) (a:Act) (x:Aw) (i:Nat),(∀x∈o.op.operands,(Ax S x).is C η H (a.eval x))->O[i]?=Ac x->g.is C η H k x->(∀k∈t,∀c,R k=Ac c->c= .gone\/∃(x:Aw) (i:Nat),O[i]?=Ac x/\c.is C η H k x)->
   ∃f,y.is C η H k f/\BM P o.op o.type (EV a) H O (λv l q=>l=H/\q=O.set i f/\sv.is C η H v)):
  Ap P C S R o ⟨sv,t,[(k,y)]⟩:=by
 intro η H m a w Y n M hi T s _ K Q G;rcases s k (.inr (by simp[keys])) g J with e|⟨x,r,D⟩;· trivial
 obtain⟨i,E,F⟩:=Jj m n r;obtain⟨f,U,V⟩:=h η H (Y.map (·.2)++m) a x i T E D λj b c p=>(s j (.inl b) c p).imp id λ⟨x,W,X⟩=>by obtain⟨i,Z,_⟩:=Jj m n W;exact⟨x,i,Z,X⟩
 refine V a w o K Q rfl rfl (λx u e=>by simpa using e) M λv w' l q L ⟨z,A,B⟩ d=>?_;subst z;subst A;rw[F]at d;refine G v w' l η (Ij Y k f) (Hp.le.refl _) (λ_ _=>rfl) (λj b=>Pq λe=>b (by subst e;simp[keys])) (λj c b=>?_) (by rw[EL];exact n) (λj b=> .inl (by rw[EL]at b;exact b)) d B;simp only[Ay]at b;split at b;· rename_i I;have:=AI I;subst this;cases b;exact .inr ⟨f,Q8 r,U⟩
 grind
def Ez(η:Nat->BZ)(k:Nat)(v:BZ):Nat->BZ:=λj=>match Hh j k with
 |true=>v
 |false=>η j
theorem AA(η:Nat->BZ)(k:Nat)(v:BZ):Ez η k v k=v:=by simp[Ez]
theorem EH{η:Nat->BZ}{j:Nat}{v:BZ}(h:j≠k):Ez η k v j=η j:=by grind[Ez,Hh,absurd,aU]
theorem Afi{sv:SV N.T}{y:List Nat}{z:SR N.T}(s:R k=C7)
  (h:∀(η:Nat->BZ) (H:Hp) (O:List Aw) (a:Act),(∀x∈o.op.operands,(Ax S x).is C η H (a.eval x))->(∀k∈y,∀f,R k=Ac f->f= .gone\/∃(x:Aw) (i:Nat),O[i]?=Ac x/\f.is C η H k x)->
   BM P o.op o.type (EV a) H O (λv l q=>l=H/\∃g b,q=g::O/\z.is C (Ez η k b) H k g/\sv.is C (Ez η k b) H v)):
  Ap P C S R o ⟨sv,y,[(k,z)]⟩:=by
 intro η H r a w Y t L X M J d K Q F;have m:=d k (by simp[keys]) s;refine h η H (Y.map (·.2)++r) a M (λj c f n=>(J j (.inl c) f n).imp id λ⟨x,T,U⟩=>by obtain⟨i,V,_⟩:=Jj r t T;grind) a w o K Q rfl rfl (λx u e=>by grind) L λv W l q I ⟨A,g,b,B,D,E⟩ p=>?_;subst A;subst B;refine F v W l (Ez η k b) ((k,g)::Y) (Hp.le.refl _) (λj c=>EH λe=>?_) (λj c=>A3 (λe=>c (by subst e;simp[keys])) _ _) (λj f c=>?_) (Aaz.2 ⟨m,t⟩) (λj c=>?_) p E;· subst e;exact c s (by simp[keys])
 ·simp only[Ay]at c;split at c;· rename_i G;have:=AI G;subst this;cases c;exact .inr ⟨g,CF _ _ _,D⟩
  ·cases c
 grind[keys]
end
end
def Pw(P:GN)(t:Gq)(n:Nat):Bool:=match P.info? t with
 |some i=>Hh i.size n&&i.zero.isSome
 |none=>Aj
theorem Dq{P:GN}{t:Gq}{n:Nat}(h:Pw P t n=Bp):∃bytes z,TI P t n bytes z:=by
 unfold Pw at h;split at h;· rename_i i a;simp only[AT]at h;obtain⟨z,b⟩:=Abk.1 h.2;exact⟨i.bytes,z,i,a,AI h.1,rfl,b⟩
 grind
def qS(k:Lo)(n:Int):Bool:=match k with
 | .i64=>Bp
 | .u8=>Dl (0<=n)&&Dl (n<=255)
 |k=>Dl (k.min<=n)&&Dl (n<=k.max)
theorem bM{k:Lo}{n:Int}(h:qS k n=Bp):UE k n:=by cases k<;>simp_all [qS,UE]
def Zb:List BZ->Bool
 | .int .u64 a:: .int .u64 b:: .int .u64 c:: .int .u64 d::_=>Dl (a=0)&&Dl (b=0)&&Dl (c=0)&&Dl (d=0)
 |_=>Aj
def Qp(T:Nat->Type)(a b:Ty):Option (a.den T->b.den T):=if h:a.JO b=Bp then Ac (S_ h)else C7
theorem BB{T:Nat->Type}{a b:Ty}{f:a.den T->b.den T}(h:Qp T a b=Ac f):∃h:a.JO b=Bp,f=S_ h:=by grind[Qp]
def rep{α:Type}(p:List BZ->Option (α×List BZ)):Nat->List BZ->Option (List α×List BZ)
 |0,a=>Ac ([],a)
 |n+1,a=>match p a with
  |some (x,r)=>match rep p n r with
   |some (l,r)=>Ac (x::l,r)
   |none=>C7
  |none=>C7
section
variable (N : C9)
def parse:Nat->(t:Ty)->List BZ->Option (t.den N.T×List BZ)
 |0,_,_=>C7
 |d+1,t,c=>match t with
  | .int k=>match c with
   | .int e n::r=>match kb k e&&qS k n with
    |true=>Ac (n,r)
    |false=>C7
   |_=>C7
  | .bool=>match c with
   | .bool b::r=>Ac (b,r)
   |_=>C7
  | .str=>match c with
   | .string s::r=>Ac (s.data.toList,r)
   |_=>C7
  | .sl _=>match c with
   | .slice C7 0 0::r=>Ac ([],r)
   |_=>C7
  | .st a=>parse d a c
  | .pr a b=>match parse d a c with
   |some (x,r)=>match parse d b r with
    |some (y,r)=>Ac ((x,y),r)
    |none=>C7
   |none=>C7
  | .un=>Ac ((),c)
  | .bs=>match Zb c with
   |true=>Ac (λ_=>Aj,c.drop 4)
   |false=>C7
  | .nm i=>match parse d (N.body i) c with
   |some (x,r)=>Ac (N.wE i x,r)
   |none=>C7
  | .ar n a=>rep (parse d a) n c
def Fg:Nat->(t:Ty)->t.den N.T->Nat->(ty:Ty)->Option (ty.den N.T)
 |0,_,_,_,_=>C7
 |c+1,t,x,off,ty=>
  match Qp N.T t ty with
  |some f=>(match Hh off 0 with
   |true=>Ac (f x)
   |false=>C7)
  |none=>match t,x with
   | .st a,x=>Fg c a x off ty
   | .pr a b,x=>match aX off (a.sz N)with
    |true=>Fg c a x.1 off ty
    |false=>Fg c b x.2 (off-a.sz N) ty
   | .nm i,x=>Fg c (N.body i) (N.out i x) off ty
   | .ar _ a,x=>match(show List (a.den N.T)from x)[off/a.sz N]? with
    |some y=>Fg c a y (off %a.sz N) ty
    |none=>C7
   |_,_=>C7
def setAt:Nat->(t:Ty)->t.den N.T->Nat->(ty:Ty)->ty.den N.T->Option (t.den N.T)
 |0,_,_,_,_,_=>C7
 |c+1,t,x,off,ty,y=>
  match Qp N.T ty t with
  |some f=>(match Hh off 0 with
   |true=>Ac (f y)
   |false=>C7)
  |none=>match t,x with
   | .st a,x=>setAt c a x off ty y
   | .pr a b,x=>match aX off (a.sz N)with
    |true=>(setAt c a x.1 off ty y).map λz=>(z,x.2)
    |false=>(setAt c b x.2 (off-a.sz N) ty y).map λz=>(x.1,z)
   | .nm i,x=>(setAt c (N.body i) (N.out i x) off ty y).map (N.wE i)
   | .ar _ a,x=>match(show List (a.den N.T)from x)[off/a.sz N]? with
    |some z=>(setAt c a z (off %a.sz N) ty y).map λz=>List.set (show List (a.den N.T)from x) (off/a.sz N) z
    |none=>C7
   |_,_=>C7
def eZ:(t:Ty)->SV N.T->Option (t.den N.T)
 |t, .d a x=>(Qp N.T a t).map (· x)
 | .int .i64, .na n=>Ac (n:Int)
 | .int .i64, .ct _ n=>Ac (n:Int)
 | .int .i64, .cb _ n=>Ac (n:Int)
 | .bool, .lb b=>Ac b
 | .bool, .lt _ n m=>Ac (Dl ((n:Int)<(m:Int)))
 |t, .px _ (.dx a l)=>(Qp N.T (.sl a) t).map λf=>f l
 |t, .raw v=>match parse N 16 t v.cells.toList with
  |some (x,[])=>(match t.agg,v with
   |true, .agg _=>Ac x
   |true,_=>C7
   |false, .agg _=>C7
   |false,_=>Ac x)
  |_=>C7
 |_,_=>C7
variable {N}
section
variable{cs:List BZ}
theorem Za(h:Zb cs=Bp):cs=(NU (λ_=>Aj)).toList++cs.drop 4:=by
 unfold Zb at h;split at h
 ·simp only[AT,decide_eq_true_eq]at h;obtain⟨⟨⟨rfl,rfl⟩,rfl⟩,rfl⟩:=h;have b:∀i,word (λ_=>Aj) i=0#64:=λi=>by
   apply Alq;grind[G7]
  have:(NU (λ_=>Aj)).toList=[K0 (word (λ_=>Aj) 0),K0 (word (λ_=>Aj) 1),K0 (word (λ_=>Aj) 2),K0 (word (λ_=>Aj) 3)]:=rfl;rw[this,b,b,b,b];rfl
 grind
theorem CE{H:Hp} :∀ {fu:Nat} {t:Ty} {cs r:List BZ} {x:t.den N.T},parse N fu t cs=Ac (x,r)->∃pre,cs=pre++r/\(N.c t).BP H x pre
 |0,_,_,_,_,h=>by cases h
 |fu+1, .int k,cs,r,x,h=>by
  simp only[parse]at h;split at h
  ·split at h;· rename_i o;simp only[AT]at o;cases h;have:=OK o.1;subst this;exact⟨[_],rfl,D4.2 ⟨rfl,bM o.2⟩⟩
   grind
  grind
 |fu+1, .bool,cs,r,x,h=>by
  simp only[parse]at h;split at h;· cases h;exact⟨[_],rfl,rfl⟩
  grind
 |fu+1, .str,cs,r,x,h=>by
  simp only[parse]at h;split at h;· cases h;exact⟨[_],rfl,rfl⟩
  grind
 |fu+1, .sl _,cs,r,x,h=>by
  simp only[parse]at h;split at h;· cases h;exact⟨[_],rfl,_,rfl,G4.nil⟩
  grind
 |fu+1, .st a,cs,r,x,h=>CE (fu:=fu) (t:=a) (by trivial)
 |fu+1, .pr a b,cs,r,x,h=>by
  simp only[parse]at h;split at h
  ·rename_i y u f;split at h;· rename_i z s j;cases h;obtain⟨p,rfl,c⟩:=CE (H:=H) f;obtain⟨q,rfl,d⟩:=CE (H:=H) j;exact⟨p++q,by simp,p,q,rfl,c,d⟩
   grind
  grind
 |fu+1, .un,cs,r,x,h=>by cases h;exact⟨[],rfl,rfl⟩
 |fu+1, .bs,cs,r,x,h=>by
  simp only[parse]at h;split at h;· rename_i B;cases h;exact⟨_,Za B,rfl⟩
  grind
 |fu+1, .nm i,cs,r,x,h=>by
  simp only[parse]at h;split at h;· rename_i y u f;cases h;obtain⟨p,e,c⟩:=CE (H:=H) f;exact⟨p,e,N.lay.2 (by rw[N.LI];omega)⟩
  grind
 |fu+1, .ar n a,cs,r,x,h=>by
  have key:∀(m:Nat) (cs:List BZ) (l:List (a.den N.T)) (r:List BZ),rep (parse N fu a) m cs=Ac (l,r)->∃pre,cs=pre++r/\l.length=m/\A2 (N.c a) H l pre:=by
   intro m;induction m with
   |zero=>intro cs l r h;cases h;exact⟨[],rfl,rfl,rfl⟩
   |succ m C=>
    intro cs l r h;simp only[rep]at h;split at h
    ·rename_i y u f;split at h;· rename_i D s j;cases h;obtain⟨q,w,A⟩:=CE (H:=H) f;obtain⟨p,c,d,g⟩:=C _ _ _ j;exact⟨q++p,by rw[w,c];simp,by simp[d],q,p,rfl,A,g⟩
     ·cases h
    grind
  obtain⟨p,c,d,g⟩:=key _ _ _ _ h;exact⟨p,c,d,g⟩
theorem C5{H:Hp} :∀ {fu:Nat} {t:Ty} {x:t.den N.T} {off:Nat} {ty:Ty} {y:ty.den N.T} {cs:List BZ},Fg N fu t x off ty=Ac y->(N.c t).BP H x cs->(N.c ty).BP H y ((cs.drop off).take (ty.sz N))/\off+ty.sz N<=cs.length
 |0,_,_,_,_,_,_,h,_=>by cases h
 |fu+1,t,x,off,ty,y,cs,h,g=>by
  unfold Fg at h;split at h
  ·rename_i f D;obtain⟨C,rfl⟩:=BB D;split at h;· rename_i n;have:=AI n;have o:=O7 C g;grind[Bg,List.take_length]
   grind
  ·cases t with
   |st a=>exact C5 (t:=a) h g
   |pr a b=>
    obtain⟨G,I,rfl,k,e⟩:=g;have z:=Bg k;cases c:aX off (a.sz N)with
    |true=>
     simp only[c]at h
     obtain⟨d,r⟩:=C5 (t:=a) h k;grind
    |false=>
     simp only[c]at h;have c:¬off<a.sz N:=λE=>by rw[show aX off (a.sz N)=Bp by simpa using E]at c;grind
     obtain⟨d,r⟩:=C5 (t:=b) h e;grind[List.drop_append,q_]
   |nm i=>exact C5 (t:=N.body i) h (N.lay.1 g)
   |ar m a=>
    simp only at h;split at h
    ·rename_i L q;obtain⟨k,e⟩:x.length=m/\A2 (N.c a) H x cs:=g;obtain⟨w,s,_,u⟩:=e.get q;obtain⟨d,r⟩:=C5 (t:=a) h s;have p:=Bg s
     have l:cs.length=x.length*a.sz N:=by rw[e.len,Bn]
     have F:=(IT.1 q).1;have B:=Agr off (a.sz N);rw[Bn]at u;have K:a.sz N*(off/a.sz N)+a.sz N<=cs.length:=by rw[l,Ada,<-Aea];exact Abi _ F
     refine⟨?_,by omega⟩;rw[u,Ahb,Agy,Ade,Adh (by omega)]at d;rw[show off/a.sz N*a.sz N+off %a.sz N=off by rw[Ada];exact B]at d;exact d
    grind
   |_=>cases h
theorem oA{vs:List BZ}{p s r:Nat}(h:p+s<=cs.length)(k:r+vs.length<=s):Ct cs p (Ct ((cs.drop p).take s) r vs)=Ct cs (p+r) vs:=by
 have e:((cs.drop p).take s).drop (r+vs.length)=(cs.drop (p+(r+vs.length))).take (s-(r+vs.length)):=by rw[Ahb,Ade]
 have c:(Ct ((cs.drop p).take s) r vs).length=s:=by grind[Ct]
 have f:cs.drop (p+(r+vs.length))=(cs.drop (p+(r+vs.length))).take (s-(r+vs.length))++cs.drop (p+s):=by
  conv=>lhs;rw[<-Acf (s-(r+vs.length)) (cs.drop (p+(r+vs.length)))]
  grind[xe]
 grind[Ct]
theorem EM{H:Hp} :∀ {fu:Nat} {t:Ty} {x z:t.den N.T} {off:Nat} {ty:Ty} {y:ty.den N.T} {cs vs:List BZ},setAt N fu t x off ty y=Ac z->(N.c t).BP H x cs->(N.c ty).BP H y vs->(N.c t).BP H z (Ct cs off vs)/\off+vs.length<=cs.length
 |0,_,_,_,_,_,_,_,_,h,_,_=>by cases h
 |fu+1,t,x,z,off,ty,y,cs,vs,h,n,j=>by
  unfold setAt at h;split at h
  ·rename_i f L;obtain⟨K,rfl⟩:=BB L;split at h;· rename_i I;have:=AI I;subst this;have A:=O7 K j;have v:=Bg A;grind[Ct,Bg]
   grind
  ·cases t with
   |st a=>exact EM (t:=a) h n j
   |pr a b=>
    obtain⟨q,u,rfl,l,c⟩:=n;have v:=Bg l;cases d:aX off (a.sz N)with
    |true=>
     simp only[d]at h
     obtain⟨w,e,rfl⟩:=Pd.1 h;obtain⟨g,p⟩:=EM (t:=a) e l j;refine⟨⟨Ct q off vs,u,?_,g,c⟩,by grind⟩;grind[Ct]
    |false=>
     simp only[d]at h;have d:¬off<a.sz N:=λM=>by rw[show aX off (a.sz N)=Bp by simpa using M]at d;grind
     obtain⟨w,e,rfl⟩:=Pd.1 h;obtain⟨g,p⟩:=EM (t:=b) e c j;refine⟨⟨q,Ct u (off-a.sz N) vs,?_,l,g⟩,by grind⟩;unfold Ct;rw[<-v,Adw,Abm (by omega),Acr,Aay (by omega:q.length<=off+vs.length)];grind
   |ar m a=>
    simp only at h;split at h
    ·rename_i P o;change List (a.den N.T)at x;obtain⟨w,e,rfl⟩:=Pd.1 h;obtain⟨l,c⟩:x.length=m/\A2 (N.c a) H x cs:=n;obtain⟨F,D,_,E⟩:=c.get o;obtain⟨g,p⟩:=EM (t:=a) e D j;have C:=Bg D;have B:=(IT.1 o).1;have r:cs.length=x.length*a.sz N:=by rw[c.len,Bn]
     have J:=Agr off (a.sz N);have s:=c.set B g;rw[Bn]at E s;have O:a.sz N*(off/a.sz N)+a.sz N<=cs.length:=by rw[r,Ada,<-Aea];exact Abi _ B
     rw[E,oA (by rw[Ada];exact O) (by omega),show off/a.sz N*a.sz N+off %a.sz N=off by rw[Ada];exact J]at s;exact⟨⟨by rw[Abq];exact l,s⟩,by omega⟩
    ·cases h
   |nm i=>
    obtain⟨w,e,rfl⟩:=Pd.1 h;obtain⟨g,p⟩:=EM (t:=N.body i) e (N.lay.1 n) j;exact⟨N.lay.2 (by rw[N.LI];exact g),p⟩
   |_=>cases h
theorem I4{C:List (SV N.T)}{t:Ty}{s:SV N.T}{x:t.den N.T}{η:Nat->BZ}{H:Hp}{v:BZ}(h:eZ N t s=Ac x)(a:s.is C η H v):(SV.d t x).is C η H v:=by
 unfold eZ at h;split at h;· obtain⟨f,d,rfl⟩:=Pd.1 h;obtain⟨c,rfl⟩:=BB d;have e:=Adn c;subst e;exact a
 ·cases h;exact⟨[_],rfl,by rw[a.1];rfl⟩
 ·cases h;exact⟨[_],rfl,by rw[a.1];rfl⟩
 ·cases h;exact⟨[_],rfl,by rw[a.1];rfl⟩
 ·cases h;exact⟨[_],rfl,by rw[show v=_ from a];rfl⟩
 ·cases h;exact⟨[_],rfl,by rw[a.1];rfl⟩
 ·obtain⟨f,d,rfl⟩:=Pd.1 h;obtain⟨c,rfl⟩:=BB d;have e:=Adn c;subst e;exact a.2
 ·rw[<-a]at h;split at h;· rename_i y j;obtain⟨p,e,g⟩:=CE (H:=H) j;rw[Adi]at e;cases b:t.agg with
   |true=>
    rw[b]at h;cases v with
    |agg i=>cases h;exact⟨p,g,by unfold CL;rw[b];rw[<-e];rfl⟩
    |_=>grind
   |false=>
    rw[b]at h;cases v with
    |agg i=>grind
    |_=>cases h;exact⟨p,g,by unfold CL;rw[b];rw[<-e];rfl⟩
  grind
 grind
end
end
def PS{T:Nat->Type} :SV T->Bool
 | .na _| .lb _| .loc _ _| .AH _| .mp _| .AK _ _ _=>Bp
 | .raw v=>v.oneCell'
 | .px _ .sf=>Bp
 |_=>Aj
section
variable (N : C9)
def SK:Nat->SV N.T->Nat->Option (SV N.T)
 |0,_,_=>C7
 |a+1,l,n=>match Hh n 0 with
  |true=>Ac l
  |false=>match l with
   | .lf s _ l=>match iT s n with
    |true=>SK a l (n-s)
    |false=>C7
   |_=>C7
def KP(
     C:List (SV N.T)):Nat->(ty:Ty)->SV N.T->Option (ty.den N.T×SV N.T)
 |0,_,_=>C7
 |c+1,ty,l=>match(match l with
   | .lf s a r=>match Hh s (ty.sz N)with
    |true=>(eZ N ty (res C a)).map λx=>(x,r)
    |false=>C7
   |_=>C7)with
  |some p=>Ac p
  |none=>match ty with
   | .st t=>KP C c t l
   | .pr a b=>match KP C c a l with
    |some (x,l)=>match KP C c b l with
     |some (y,l)=>Ac ((x,y),l)
     |none=>C7
    |none=>C7
   | .nm i=>(KP C c (N.body i) l).map λp=>(N.wE i p.1,p.2)
   |_=>C7
def EY(C:List (SV N.T)):SV N.T->Nat->Option Ty->Option (SV N.T)
 | .lf s a l,off,b=>match aX off s with
  |true=>match Hh off 0&&(Hh s 1&&PS (res C a))with
   |true=>Ac (res C a)
   |false=>match b with
    |none=>C7
    |some c=>match(match res C a with
      | .d t x=>Fg N 16 t x off c
      |_=>C7)with
     |some y=>Ac (.d c y)
     |none=>match Hh off 0 with
      |true=>(KP N C 16 c (.lf s a l)).map λp=> .d c p.1
      |false=>C7
  |false=>EY C l (off-s) b
 |_,_,_=>C7
def eV(C:List (SV N.T)):Nat->SV N.T->Nat->Nat->SV N.T->Option (SV N.T)
 |0,_,_,_,_=>C7
 |e+1,l,off,c,b=>match l with
  | .lf s a l=>match aX off s with
   |true=>match Hh off 0&&iT s c with
    |true=>(SK N 64 l (c-s)).map (.lf c b)
    |false=>match res C a with
     | .d (.st t) x=>eV C e (.lf s (.d t x) l) off c b
     | .d (.pr t u) x=>eV C e (.lf (t.sz N) (.d t x.1) (.lf (u.sz N) (.d u x.2) l)) off c b
     | .d (.nm i) x=>eV C e (.lf s (.d (N.body i) (N.out i x)) l) off c b
     | .d (.ar m t) x=>match Hh (off %t.sz N) 0&&(Hh c (t.sz N)&&aX 0 (t.sz N)),eZ N t b,(show List (t.den N.T)from x)[off/t.sz N]? with
      |true,Ac y,Ac _=>Ac (.lf s (.d (.ar m t) (show(Ty.ar m t).den N.T from(show List (t.den N.T)from x).set (off/t.sz N) y)) l)
      |_,_,_=>C7
     |_=>C7
   |false=>(eV C e l (off-s) c b).map (.lf s a)
  |_=>C7
def toL:SV N.T->Option (SV N.T)
 | .lf s a l=>Ac (.lf s a l)
 | .nl=>Ac .nl
 | .d t x=>Ac (.lf (t.sz N) (.d t x) .nl)
 | .ct _ n| .cb _ n=>Ac (.lf 1 (.na n) .nl)
 | .lt _ n m=>Ac (.lf 1 (.d .bool (Dl ((n:Int)<(m:Int)))) .nl)
 |s=>match PS s with
  |true=>Ac (.lf 1 s .nl)
  |false=>C7
variable {N} {C : List (SV N.T)}
section
variable{η:Nat->BZ}{H:Hp}{l:SV N.T}{t:Ty}{x:t.den N.T}{cs:List BZ}
theorem MF{s:SV N.T}{η:Nat->BZ}{H:Hp}{v:BZ}(h:PS s=Bp)(a:s.is C η H v):v.oneCell'=Bp:=by
 cases s<;>simp only[PS]at h<;>first|grind|skip
 ·rw[a.1];rfl
 ·rw[show v=_ from a];rfl
 ·rw[show v=_ from a];omega
 ·obtain⟨B,_,rfl⟩:=a;rfl
 ·exact a.2
 ·exact a.2
 ·obtain⟨c,rfl,_⟩:=a;rfl
 ·rename_i b p;cases p with
  |sf=>
   rcases a with rfl|⟨_,_,rfl⟩<;>rfl
  |_=>grind
theorem A9{v:BZ}(h:v.oneCell'=Bp):v.cells.toList=[v]:=rz h
theorem CP{t:Ty}{x:t.den N.T}{η:Nat->BZ}{H:Hp}{v:BZ}(h:(SV.d t x).is C η H v):(N.c t).BP H x v.cells.toList/\∀u∈v.cells.toList,u.oneCell'=Bp:=by obtain⟨e,b,a⟩:=h;have c:=(N.c t).one b;grind[CL,BZ.cells,A9]
theorem E4(h:(N.c t).BP H x cs):∃u,(SV.d t x).is C η H u/\u.cells.toList=cs:=by
 cases a:t.agg with
 |true=>exact⟨.agg cs.toArray,⟨cs,h,by grind[CL]⟩,by rfl⟩
 |false=>
  have d:t.sz N=1:=by cases t<;>simp_all [Ty.agg,Ty.sz]
  have b:=Bg h;rw[d]at b;obtain⟨v,rfl⟩:=Adb.1 b;exact⟨v,⟨[v],h,by grind[CL]⟩,A9 ((N.c t).one h v (by simp))⟩
theorem La{s:Nat}{a l:SV N.T}{η:Nat->BZ}{H:Hp}{u:BZ}{c2:List BZ}(h:a.is C η H u)(d:u.cells.toList.length=s)(c:∀x∈u.cells.toList,x.oneCell'=Bp)(k:l.is C η H (.agg c2.toArray)):(SV.lf s a l).is C η H (.agg (u.cells.toList++c2).toArray):=
 ⟨u.cells.toList,c2,u,rfl,d,h,rfl,c,k⟩
theorem Uo{b c2:List BZ}(h:(N.c t).BP H x b)(k:l.is C η H (.agg c2.toArray)):(SV.lf (t.sz N) (.d t x) l).is C η H (.agg (b++c2).toArray):=by obtain⟨u,c,e⟩:=E4 (C:=C) (η:=η) h;grind[La,Bg,CP]
theorem au:(SV.nl:SV N.T).is C η H (.agg ([]:List BZ).toArray):=rfl
theorem FE{s:Nat}{a:SV N.T}(h:(SV.lf s a l).is C η H (.agg cs.toArray)):∃b c2 u,cs=b++c2/\b.length=s/\a.is C η H u/\u.cells.toList=b/\(∀x∈b,x.oneCell'=Bp)/\l.is C η H (.agg c2.toArray):=by obtain⟨b,c2,u,c,d⟩:=h;refine⟨b,c2,u,?_,d⟩;grind
theorem oe{s:SV N.T}{v:BZ}(h:toL N s=Ac l)(a:s.is C η H v):l.is C η H (.agg v.cells):=by
 have one:∀ {s:SV N.T},s.is C η H v->v.oneCell'=Bp->(SV.lf 1 s .nl).is C η H (.agg v.cells):=λ{s} a c=>by have:=La (s:=1) a (by grind[A9]) (by grind[A9]) au;simp_all
 have gen:∀ {s:SV N.T},s.is C η H v->PS s=Bp->(SV.lf 1 s .nl).is C η H (.agg v.cells):=λa b=>one a (MF b a);unfold toL at h;split at h;· cases h;obtain⟨g,c2,u,rfl,e⟩:=a;exact⟨g,c2,u,rfl,e⟩
 ·cases h;rw[show v=_ from a];rfl
 ·obtain⟨i,e⟩:=CP a;have:=Uo (C:=C) (η:=η) (c2:=[]) i au;simp_all
 ·cases h;exact one (s:= .na _) a (by rw[a.1];rfl)
 ·cases h;exact one (s:= .na _) ⟨a.1,Agm a.2⟩ (by rw[a.1];rfl)
 ·cases h;exact one (s:= .d .bool _) ⟨[_],rfl,by rw[a.1];rfl⟩ (by rw[a.1];rfl)
 grind
theorem M8{η:Nat->BZ}{H:Hp} :∀ {fu:Nat} {l r:SV N.T} {n:Nat} {cs:List BZ},SK N fu l n=Ac r->l.is C η H (.agg cs.toArray)->r.is C η H (.agg (cs.drop n).toArray)/\n<=cs.length
 |0,_,_,_,_,h,_=>by cases h
 |fu+1,l,r,n,cs,h,d=>by
  unfold SK at h;split at h;· simp_all
  ·split at h
   ·split at h;· rename_i c;have c:=Aax c;obtain⟨j,k,u,rfl,f,_,_,_,g⟩:=FE d;obtain⟨i,m⟩:=M8 h g;grind[List.drop_append,q_]
    grind
   grind
theorem EK{η:Nat->BZ}{H:Hp} :∀ {fu:Nat} {ty:Ty} {l r:SV N.T} {x:ty.den N.T} {cs:List BZ},KP N C fu ty l=Ac (x,r)->l.is C η H (.agg cs.toArray)->∃c c2,cs=c++c2/\(N.c ty).BP H x c/\r.is C η H (.agg c2.toArray)
 |0,_,_,_,_,_,h,_=>by cases h
 |fu+1,ty,l,r,x,cs,h,f=>by
  unfold KP at h;split at h
  ·rename_i p d;cases h;split at d
   ·split at d;· obtain⟨y,E,e⟩:=Pd.1 d;cases e;obtain⟨c,c2,u,rfl,n,A,B,G,D⟩:=FE f;refine⟨c,c2,rfl,?_,D⟩;rw[<-B];exact(CP (I4 E (ET A))).1
    grind
   grind
  ·cases ty with
   |st t=>exact EK (ty:=t) h f
   |pr a b=>
    simp only at h;split at h
    ·rename_i y F k;split at h;· rename_i z I n;cases h;obtain⟨c,c2,rfl,g,j⟩:=EK k f;obtain⟨m,q,rfl,v,w⟩:=EK n j;exact⟨c++m,q,by simp,⟨c,m,rfl,g,v⟩,w⟩
     grind
    grind
   |nm i=>
    obtain⟨⟨y,F⟩,k,e⟩:=Pd.1 h;cases e;obtain⟨c,c2,rfl,g,j⟩:=EK k f;exact⟨c,c2,rfl,N.lay.2 (by rw[N.LI];omega),j⟩
   |_=>cases h
structure xw(C:List (SV N.T))(η:Nat->BZ)(H:Hp)(sv:SV N.T)(c:List BZ):Prop where
 ex:∃u,sv.is C η H u/\u.cells.toList=c/\((∃ty x,sv= .d ty x/\c.length=ty.sz N)\/(u.oneCell'=Bp/\∀ty x,sv≠ .d ty x))
theorem Dt:∀ {l sv:SV N.T} {off:Nat} {d:Option Ty} {cs:List BZ},EY N C l off d=Ac sv->l.is C η H (.agg cs.toArray)->∃c,xw C η H sv c/\(cs.drop off).take c.length=c:=by
 intro l;induction l with
 |lf s a l _ R=>
  intro sv off d cs h F;obtain⟨A,S,u,rfl,M,f,D,W,O⟩:=FE F;unfold EY at h;split at h
  ·split at h;· rename_i k b;cases h;simp only[AT]at b;have J:=AI b.1;subst J;have f:=ET f;have Q:=MF b.2.2 f;refine⟨A,⟨u,f,D, .inr ⟨Q,λj x e=>?_⟩⟩,by simp⟩;rw[e]at b;cases b.2.2
   ·split at h;· grind
    ·rename_i j;split at h
     ·rename_i y p;cases h;split at p
      ·rename_i t x o;have f:=ET f;rw[o]at f;have E:=(CP f).1;rw[D]at E;obtain⟨q,G⟩:=C5 p E;obtain⟨w,v,z⟩:=E4 (C:=C) (η:=η) q;have g:((A.drop off).take (j.sz N)).length=j.sz N:=by simp;omega
       refine⟨_,⟨w,v,z, .inl ⟨j,y,rf,g⟩⟩,?_⟩;rw[g,Afn (by omega),Ach (by simp;omega)]
      grind
     ·split at h;· rename_i L;have:=AI L;subst this;obtain⟨⟨y,r⟩,P,e⟩:=Pd.1 h;cases e;obtain⟨I,T,K,B,V⟩:=EK P F;obtain⟨w,v,z⟩:=E4 (C:=C) (η:=η) B;refine⟨I,⟨w,v,z, .inl ⟨j,y,rfl,Bg B⟩⟩,?_⟩;rw[K,Aff,List.take_left'];rfl
      ·cases h
  ·rename_i k;have k:s<=off:=by
    rcases Aan off s with n|n;· rw[show aX off s=Bp by simpa using n]at k;cases k
    ·exact n
   obtain⟨c,q,G⟩:=R h O;refine⟨c,q,?_⟩;rw[Acr,Aay (by omega),Acd,M];exact G
 |_=>intro sv off d cs h _;simp[EY]at h
theorem IH{η:Nat->BZ}{H:Hp}{v:BZ}{b:SV N.T}(B:b.is C η H v)(F:∀x∈v.cells.toList,x.oneCell'=Bp):∀ {fu:Nat} {l S:SV N.T} {off:Nat} {cs:List BZ},eV N C fu l off v.cells.toList.length b=Ac S->l.is C η H (.agg cs.toArray)->
  S.is C η H (.agg (Ct cs off v.cells.toList).toArray)/\off+v.cells.toList.length<=cs.length
 |0,_,_,_,_,h,_=>by cases h
 |fu+1,l,S,off,cs,h,hl=>by
  unfold eV at h;split at h
  ·rename_i s a l;obtain⟨f,q,u,rfl,z,c,n,X,A⟩:=FE hl;split at h
   ·split at h
    ·rename_i k o;simp only[AT]at o;have T:=AI o.1;obtain⟨r,P,rfl⟩:=Pd.1 h;obtain⟨R,k2⟩:=M8 P A;refine⟨?_,by grind⟩;have:=La B rfl F R;simp_all[Ct,Aee,Acd,Abl,Acr,Aay]
    ·split at h;· rename_i t x d;have c:=ET c;rw[d]at c;have g:=(CP c).1;rw[n]at g;have:=Uo (t:=t) (C:=C) (η:=η) g A;rw[show t.sz N=s from by rw[<-z];exact(Bg g).symm]at this;exact IH B F h this
     ·rename_i t u' x d;have c:=ET c;rw[d]at c;have g:=(CP c).1;rw[n]at g;obtain⟨d1,d2,e,I,w⟩:=g;have:=Uo (t:=t) (C:=C) (η:=η) I (Uo (t:=u') (C:=C) (η:=η) w A);rw[<-Aaj,<-e]at this;exact IH B F h this
     ·rename_i i x d;have c:=ET c;rw[d]at c;have g:=(CP c).1;rw[n]at g;have U:=N.lay.1 g;have:=Uo (t:=N.body i) (C:=C) (η:=η) U A;rw[show(N.body i).sz N=s from by grind[Bg]]at this;exact IH B F h this
     ·rename_i m t x d;split at h
      ·rename_i y x0 p hy j;cases h;simp only[AT]at p;have T:=AI p.1;have L:=AI p.2.1;have c:=ET c;rw[d]at c;have g:=(CP c).1;rw[n]at g;obtain⟨I,w⟩:x.length=m/\A2 (N.c t) H x f:=g;have Q:=(CP (I4 hy B)).1;obtain⟨K,q1,_,q3⟩:=w.get j;have E:=Bg q1;have Y:=Agr off (t.sz N);have M:f.length=x.length*t.sz N:=by rw[w.len,Bn]
       have Z:=(IT.1 j).1;have hm:t.sz N*(off/t.sz N)+t.sz N<=f.length:=by rw[M,Ada,<-Aea];exact Abi _ Z
       have V:=w.part (off:=0) (y:=y) (vs:=v.cells.toList) j q3 (by rw[Bn];exact E) (by rw[Bn,L];omega) (by
        have:Ct K 0 v.cells.toList=v.cells.toList:=by unfold Ct;rw[Aee,Acd,Abl,Aay (by omega),Adi]
        rw[this];exact Q);rw[Bn,Ago,show off/t.sz N*t.sz N=off by rw[Ada];omega]at V;have D:(N.c (.ar m t)).BP H (show(Ty.ar m t).den N.T from(show List (t.den N.T)from x).set (off/t.sz N) y) (Ct f off v.cells.toList):=⟨by rw[Abq];exact I,V⟩;have:=Uo (t:= .ar m t) (C:=C) (η:=η) D A;rw[show(Ty.ar m t).sz N=s from by rw[<-z];exact(Bg (t:= .ar m t) (show(N.c (.ar m t)).BP H x f from⟨I,w⟩)).symm]at this;refine⟨?_,by rw[Aac];omega⟩;have e:Ct (f++q) off v.cells.toList=Ct f off v.cells.toList++q:=by
        unfold Ct;rw[Ach (by omega),Afn (by omega)];simp
       rw[e];exact this
      trivial
     grind
   ·rename_i k;have k:s<=off:=by
     rcases Aan off s with O|O;· rw[show aX off s=Bp by simpa using O]at k;cases k
     ·exact O
    obtain⟨r,P,rfl⟩:=Pd.1 h;obtain⟨R,k2⟩:=IH B F P A;refine⟨?_,by simp at*;omega⟩;have:=La (s:=s) c (by rw[n];exact z) (by rw[n];exact X) R;rw[n]at this;have e:Ct (f++q) off v.cells.toList=f++Ct q (off-s) v.cells.toList:=by unfold Ct;rw[Adw,Abm (by omega),Acr,Aay (by omega:f.length<=off+v.cells.toList.length),z];simp;omega
    rw[e];exact this
  grind
end
end
section
variable (N : C9) {R : Type}
def UA:List (Option Ty)->Option (Option Ty)
 | []=>Ac C7
 |none::_=>C7
 |some t::l=>match UA l with
  |some C7=>Ac (Ac t)
  |some (Ac u)=>Ac (Ac (.pr t u))
  |none=>C7
def fq(
     P:GN):Nat->Gq->Option Ty
 |0,_=>C7
 |a+1,t=>match N.id t with
  |some i=>Ac (.nm i)
  |none=>match P.underlying t with
   |some .bool=>Ac .bool
   |some (.int k)=>Ac (.int k)
   |some .string=>Ac .str
   |some (.slice e)=>(fq P a e).map .sl
   |some (.array n e)=>match P.underlying e,Hh n 4 with
    |some (.int .u64),Bp=>Ac .bs
    |_,_=>(fq P a e).map λt=>match iT n 4 with
     |true=> .st (match UA (T8 n (Ac t))with|some (Ac u)=>u|_=> .un)
     |false=> .ar n t
   |some (.struct b)=>(UA (b.toList.map λf=>fq P a f.type)).map λr=> .st (r.getD .un)
   |_=>C7
def q7:Bool->Bool->Bool
 |true,Bp|false,Aj=>Bp
 |_,_=>Aj
theorem Wj:∀ {a b:Bool},q7 a b=Bp->a=b:=by decide
def L_(P:GN)(t:Gq):Option Ty:=match fq N P 12 t,P.underlying t with
 |some a,Ac d=>match q7 (DL d) a.agg&&Pw P t (a.sz N)with
  |true=>Ac a
  |false=>C7
 |_,_=>C7
variable {N}
section
variable{k:Lo}{n:Int}{C:List (SV N.T)}{η:Nat->BZ}{H:Hp}
theorem Ke{P:GN}{t:Gq}{ty:Ty}(h:L_ N P t=Ac ty):∃d,P.underlying t=Ac d/\DL d=ty.agg/\∃bytes z,TI P t (ty.sz N) bytes z:=by
 unfold L_ at h;split at h
 ·split at h;· rename_i a;grind[Wj,Dq]
  grind
 grind
def intOf:SV N.T->Option (Lo×Int)
 | .d (.int k) x=>Ac (k,x)
 | .na n| .ct _ n| .cb _ n=>Ac (.i64,(n:Int))
 | .raw (.int k n)=>Ac (k,n)
 |_=>C7
theorem AV{s:SV N.T}{v:BZ}(h:intOf s=Ac (k,n))(a:s.is C η H v):v= .int k n:=by
 unfold intOf at h;split at h;· obtain⟨d,b,c⟩:=a;have b:=(D4.1 b).1;subst b;have c:[_]=[v]:=c;grind
 ·cases h;exact a.1
 ·cases h;exact a.1
 ·cases h;exact a.1
 ·cases h;exact a
 grind
def Aa(k:Lo)(n:Int)(x:Option R):Option R:=match k with
 | .i64=>Ag (DW n) x
 | .u8=>Ag (F8 n) x
 |k=>Ag (k.min<=n/\n<=k.max) x
theorem BV{x:Option R}{r:R}(h:Aa k n x=Ac r):(k.min<=n/\n<=k.max)/\UE k n/\x=Ac r:=by
 unfold Aa at h;split at h;· obtain⟨a,b⟩:=AE h;trivial
 ·obtain⟨a,b⟩:=AE h;trivial
 ·obtain⟨a,b⟩:=AE h;refine⟨a,?_,b⟩;cases k<;>first|exact a|grind|exact absurd rfl d
theorem D6(h:UE k n):(SV.d (.int k) n:SV N.T).is C η H (.int k n):=⟨[_],D4.2 ⟨rfl,h⟩,rfl⟩
def RK(wr:List (Nat×SR N.T))(Rr:Nat->Option (SR N.T))(k:Nat):Option (SR N.T):=match Ay wr k with
 |some x=>Ac x
 |none=>Rr k
def D9(τ:Nat->Nat)(Rr:Nat->Option (SR N.T)):SV N.T->Prop
 | .ct i n=>τ i=n
 | .cb i n=>τ i=n
 | .lt i n _=>τ i=n
 | .Ec k i _ t x=> ∀g a l,Rr k=Ac (.row g a l)->∃h:a.JO t=Bp,(idx l i).map (S_ h)=Ac x
 |_=>True
def Nv(Rr:Nat->Option (SR N.T))(S:Nat->SV N.T)(τ:Nat->Nat):Prop:= ∀t,D9 τ Rr (S t)
structure A1(P:GN)(C:List (SV N.T))(S:Nat->SV N.T)(Rr:Nat->Option (SR N.T))(nk:Nat)(o:K7)(k:Bx N.T->Nat->Option R)(r:R):Prop where
 ex:∃s nk',k s nk'=Ac r/\Ap P C S Rr o s/\nk<=nk'/\(∀j∈keys s.wr,Rr j=C7->nk<=j/\j<nk')/\∀τ,Nv Rr S τ->D9 τ (RK s.wr Rr) s.sv
end
section
variable {P : GN} {C : List (SV N.T)} {S : Nat -> SV N.T} {Rr : Nat -> Option (SR N.T)} {nk : Nat} {o : K7} {k : Bx N.T -> Nat -> Option R} {r : R}
section
variable{cs:List BZ}{τ:Nat->Nat}{t:Ty}{v:BZ}
theorem A1.y{sv:SV N.T}{a:List Nat}(h:k ⟨sv,a,[]⟩ nk=Ac r)(c:Ap P C S Rr o ⟨sv,a,[]⟩)(d:∀τ,Nv Rr S τ->D9 τ Rr sv):A1 P C S Rr nk o k r:=
 ⟨_,nk,h,c,Aae _,λj b=>(by cases b),d⟩
theorem A1.new{sv:SV N.T}{b:List Nat}{c:SR N.T}(h:k ⟨sv,b,[(nk,c)]⟩ (nk+1)=Ac r)(d:Ap P C S Rr o ⟨sv,b,[(nk,c)]⟩)(e:∀τ Rr,D9 τ Rr sv):A1 P C S Rr nk o k r:=
 ⟨_,nk+1,h,d,Agx _,λj a _=>(by grind[keys]),λτ _=>e τ _⟩
theorem A1.set{sv:SV N.T}{d:List Nat}{b:Nat}{i e:SR N.T}(h:k ⟨sv,d,[(b,e)]⟩ nk=Ac r)(h0:Rr b=Ac i)(f:Ap P C S Rr o ⟨sv,d,[(b,e)]⟩)(g:∀τ Rr,D9 τ Rr sv):A1 P C S Rr nk o k r:=
 ⟨_,nk,h,f,Aae _,λj a c=>(by grind[keys]),λτ _=>g τ _⟩
theorem L5{x:DQ}(h:Nv Rr S τ):D9 τ Rr (Ax S x):=by
 cases x with
 |tmp t=>exact h t
 |const v=>simp only[Ax,ofConst];split<;>trivial
 |_=>trivial
theorem oN{s:SV N.T}(h:PS s=Bp):D9 τ Rr s:=by cases s<;>first|trivial|cases h
theorem VM{x:DQ}(b:o.op= .move x\/o.op= .assign x)(h:k ⟨Ax S x,[],[]⟩ nk=Ac r):A1 P C S Rr nk o k r:=by
 refine .y h (Abu λη H O a c _=>⟨a.eval x,?_,?_⟩) λτ h=>L5 h
 ·rcases b with b|b<;>rw[b];· exact Au.move rfl
  ·exact Au.assign rf
 grind[af]
theorem Z6{c x y:DQ}(b:o.op= .pick c x y)(hc:Ax S c= .lb Bp)(h:k ⟨Ax S x,[],[]⟩ nk=Ac r):A1 P C S Rr nk o k r:=by refine .y h (Abu λη H O a d _=>⟨a.eval x,?_,d x (by grind[af])⟩) λτ h=>L5 h;have:=d c (by grind[af]);rw[hc]at this;rw[b];exact Akj (congrArg Ac this) rf
theorem Z7{c x y:DQ}(b:o.op= .pick c x y)(hc:Ax S c= .lb Aj)(h:k ⟨Ax S y,[],[]⟩ nk=Ac r):A1 P C S Rr nk o k r:=by refine .y h (Abu λη H O a d _=>⟨a.eval y,?_,d y (by grind[af])⟩) λτ h=>L5 h;have:=d c (by grind[af]);rw[hc]at this;rw[b];exact Aki (congrArg Ac this) rf
def ldB(P:GN)(t:Gq)(sv:SV N.T):Bool:=match P.underlying t with
 |some d=>match sv with
  | .d a _=>q7 (DL d) a.agg&&Pw P t (a.sz N)
  |_=> !DL d
 |none=>Aj
def wu(P:GN)(C:List (SV N.T))(S:Nat->SV N.T)(Rr:Nat->Option (SR N.T))(nk:Nat)(t:Gq)(x:DQ)(k:Bx N.T->Nat->Option R):Option R:=match Ax S x with
 | .loc b off=>match Rr b with
  |some (.Ai _ l)=>match EY N C l off (L_ N P t)with
   |some sv=>match ldB P t sv with
    |true=>k ⟨sv,[b],[]⟩ nk
    |false=>C7
   |none=>C7
  |_=>C7
 | .pd c y off=>match L_ N P t with
  |some a=>match Fg N 16 c y off a,aX 0 (a.sz N)with
   |some z,Bp=>k ⟨.d a z,[],[]⟩ nk
   |_,_=>C7
  |none=>C7
 | .Ec b _ off e y=>match Rr b,L_ N P t with
  |some (.row _ _ _),Ac a=>match Fg N 16 e y off a,aX 0 (a.sz N)with
   |some z,Bp=>k ⟨.d a z,[b],[]⟩ nk
   |_,_=>C7
  |_,_=>C7
 |_=>C7
theorem Kk(h:CL t cs v)(a:t.agg=Bp):v= .agg cs.toArray:=by grind[CL]
theorem Kj(h:CL t cs v)(a:t.agg=Aj):cs=[v]:=by grind[CL]
theorem drop_one{off:Nat}{u:BZ}(h:(cs.drop off).take 1=[u]):cs[off]?=Ac u:=by
 have:((cs.drop off).take 1)[0]?=Ac u:=by grind
 grind
theorem mT{t:Gq}{x:DQ}(ho:o.op= .load t x)(hW:∃τ,Nv Rr S τ)(h:wu P C S Rr nk t x k=Ac r):A1 P C S Rr nk o k r:=by
 have U:∀ {η:Nat->BZ} {H:Hp} {a:Act},(∀x∈o.op.operands,(Ax S x).is C η H (a.eval x))->(Ax S x).is C η H (a.eval x):=λV=>V x (by grind[af]);unfold wu at h;split at h
 ·rename_i b off hs;
           split at h
  ·rename_i g l T;split at h
   ·rename_i sv Z;
           split at h
    ·rename_i Q;refine .y h (Abu λη H O a V hr=>?_) λτ _=>?_
     ·obtain⟨B,M,e2⟩:(SV.loc b off:SV N.T).is C η H (a.eval x):=by grind
      rcases hr b (by simp) _ T with e|⟨X,i,L,B',cs,Y,e4,h2⟩;· grind
      rw[M]at Y;have Y:B=B':=by grind[ptr]
      subst Y;subst e4;obtain⟨c,⟨u,k1,k2,k3⟩,k4⟩:=Dt (cs:=cs.toList) Z h2;unfold ldB at Q;split at Q
      ·rename_i d I;rcases k3 with⟨n,y,rfl,f⟩|⟨ho1,hnd⟩;· simp only[AT]at Q;have w:=Wj Q.1;obtain⟨bytes,z,F⟩:=Dq Q.2;obtain⟨D,q1,K⟩:=k1;refine⟨u,?_,⟨D,q1,K⟩⟩;rw[ho];cases A:n.agg with
        |true=>
         have:=Kk K A;subst this;have hc:D=c:=by trivial
         subst hc;exact Aje I (by grind) (by rw[f];exact F) (congrArg Ac e2) L k4
        |false=>
         have:=Kj K A;subst this;have hc:c=[u]:=by rw[<-k2];exact A9 ((N.c n).one q1 u (by simp))
         subst hc;exact Agj I (by rw[w,A]) (congrArg Ac e2) L (by simpa using drop_one k4)
       ·have hB':DL d=Aj:=by
         cases sv with
         |d n y=>exact absurd rfl (hnd n y)
         |_=>simpa using Q
        refine⟨u,?_,k1⟩;have hc:c=[u]:=by rw[<-k2];exact A9 ho1
        subst hc;rw[ho];exact Agj I hB' (congrArg Ac e2) L (by simpa using drop_one k4)
      grind
     ·have:∀ {l sv:SV N.T} {off:Nat} {G:Option Ty},EY N C l off G=Ac sv->D9 τ Rr sv:=by
       intro l;induction l with
       |lf s a l _ ih=>
        intro sv off G h;unfold EY at h;split at h
        ·split at h;· rename_i T;cases h;simp only[AT]at T;exact oN T.2.2
         ·split at h;· cases h
          ·split at h;· cases h;trivial
           ·split at h;· obtain⟨p,_,rfl⟩:=Pd.1 h;trivial
            ·cases h
        ·exact ih h
       |_=>intro sv off G h;simp[EY]at h
      exact this Z
    grind
   grind
  grind
 ·rename_i t' y off hs;split at h
  ·rename_i n ht;split at h
   ·rename_i z hz h0;refine .y h (Abu λη H O a V hr=>?_) λτ _=>trivial;obtain⟨ad,q,cs,M,L,h2⟩:(SV.pd t' y off:SV N.T).is C η H (a.eval x):=by rw[<-hs];exact U V
    obtain⟨d,I,w,bytes,zv,F⟩:=Ke ht;obtain⟨k1,k2⟩:=C5 hz L;obtain⟨u,w1,W⟩:=E4 (η:=η) k1;have f:((cs.drop off).take (n.sz N)).length=n.sz N:=by simp;omega
    have hc:∀j u,((cs.drop off).take (n.sz N))[j]?=Ac u->DV H (.pointer (Ac (ad.add (q+off+j)))) u:=λj u E=>by
     rw[Aex]at E;split at E;· rw[Afw]at E;rw[Ado];exact h2 _ u E
     ·cases E
    refine⟨u,?_,w1⟩;rw[ho];obtain⟨D,q1,K⟩:=w1;cases A:n.agg with
    |true=>
     have:=Kk K A;subst this;have e:D=(cs.drop off).take (n.sz N):=by simpa [BZ.cells]using W
     subst e;refine Aio (v:= .slice (Ac ad) 0 0) (k:=q+off) I (by rw[w,A]) (by rw[f];exact F) ?_ (congrArg Ac M) hc;cases Z:(cs.drop off).take (n.sz N)with
     |nil=>rw[Z]at f;simp at f h0;omega
     |cons a l=>rfl
    |false=>
     have:=Kj K A;subst this;rw[A9 ((N.c n).one q1 u (by simp))]at W;exact Ajj I (by rw[w,A]) (congrArg Ac M) (by have:=hc 0 u (by rw[<-W];rfl);simpa using this)
   ·cases h
  ·cases h
 ·rename_i b i off te y hs;split at h
  ·rename_i g te' l n T ht;split at h
   ·rename_i z hz h0;refine .y h (Abu λη H O a V hr=>?_) λτ _=>trivial;obtain⟨M,ad,n',c',e2⟩:(SV.Ec b i off te y:SV N.T).is C η H (a.eval x):=by rw[<-hs];exact U V
    obtain⟨τ,hτ⟩:=hW;have hw:D9 τ Rr (Ax S x):=L5 hτ;rw[hs]at hw;obtain⟨he,hi⟩:=hw g te' l T;obtain⟨y',hy',rfl⟩:=Pd.1 hi;have ee:=Adn he;subst ee;rcases hr b (by simp) _ T with e|⟨X,j,L,xs,Y,hL⟩;· cases e
    subst Y;obtain⟨d,I,w,bytes,zv,F⟩:=Ke ht;obtain⟨cs,g1,g2,_⟩:=hL.get (Dg hy').2;obtain⟨k1,k2⟩:=C5 hz g1;obtain⟨u,w1,W⟩:=E4 (η:=η) k1;have f:((cs.drop off).take (n.sz N)).length=n.sz N:=by simp;omega
    have hc:∀j u,((cs.drop off).take (n.sz N))[j]?=Ac u->xs[i.toNat*te'.sz N+off+j]?=Ac u:=λj u E=>by
     rw[Aex]at E;split at E;· rw[Afw]at E;have:=g2 _ u E;rw[Bn]at this;rw[Ado];exact this
     ·cases E
    refine⟨u,?_,w1⟩;rw[ho];obtain⟨D,q1,K⟩:=w1;cases A:n.agg with
    |true=>
     have:=Kk K A;subst this;have e:D=(cs.drop off).take (n.sz N):=by simpa [BZ.cells]using W
     subst e;refine Akn I (by rw[w,A]) (by rw[f];exact F) ?_ (congrArg Ac M) L hc;intro Z;rw[Z]at f;simp at f h0;omega
    |false=>
     have:=Kj K A;subst this;rw[A9 ((N.c n).one q1 u (by simp))]at W;exact Ahs I (by rw[w,A]) (congrArg Ac M) L (by have:=hc 0 u (by rw[<-W];rfl);simpa using this)
   ·cases h
  ·cases h
 grind
end
end
end
section
variable {N : C9} {R : Type} {P : GN} {C : List (SV N.T)} {S : Nat -> SV N.T} {Rr : Nat -> Option (SR N.T)} {nk : Nat} {o : K7} {k : Bx N.T -> Nat -> Option R} {r : R}
section
variable{t T:Gq}{E:DQ->Option BZ}{H:Hp}{O:List Aw}
theorem Ajt{size bytes:Nat}{z:BZ}(g:TI P t size bytes z):
  BM P (.alloc t) T E H O (λv c d=> ∃B,v=ptr B 0/\c=H/\d= .Ai B (.cells z.cells t (0,0))::O):= .Ao λa w o e _ h f=>by
 refine⟨_,_,H,_,?_,Hp.le.refl H,⟨w.heap.size,rf,rf,rf⟩,f.alloc _⟩;simp[Kt,e,Instr.alloc,g.zeroValue,newVar,newRow,ptr]
theorem Aie{x:DQ}{v:BZ}(h:E x=Ac v):
  BM P (.box t x) T E H O (λu c d=> ∃B,u=ptr B 0/\c=H/\d= .Ai B (.cells v.cells t (0,0))::O):= .Ao λa w o f _ e g=>by
 refine⟨_,_,H,_,?_,Hp.le.refl H,⟨w.heap.size,rf,rf,rf⟩,g.alloc _⟩;simp_all[Kt,Instr.box,newVar,newRow,ptr]
def TK(C:List (SV N.T))(t:Ty)(s:SV N.T):Option (t.den N.T):=match s with
 | .lf z a l=>match t.agg,KP N C 64 t (.lf z a l)with
  |true,Ac (x, .nl)=>Ac x
  |_,_=>C7
 |s=>eZ N t s
theorem DK{t:Ty}{s:SV N.T}{x:t.den N.T}{η:Nat->BZ}{H:Hp}{v:BZ}(h:TK C t s=Ac x)(b:s.is C η H v):(SV.d t x).is C η H v:=by
 unfold TK at h;split at h
 ·split at h
  ·rename_i l m;cases h;have i:=b;obtain⟨d,f,u,rfl,_⟩:=i;obtain⟨g,c,e,j,a⟩:=EK (η:=η) (H:=H) (cs:=d++f) m b;have a:BZ.agg c.toArray= .agg #[]:=a;have a:c=[]:=by grind
   subst a;refine⟨g,j,?_⟩;grind[CL]
  grind
 grind[I4]
end
variable (N) in
def fg(P:GN):Nat->List Gq->List BZ->Option (SV N.T)
 |0,_,_=>C7
 |_+1,[],c=>match c with
  | []=>Ac .nl
  |_=>C7
 |e+1,t::f,c=>match a (L_ N P t)with
  |some b=>match parse N 16 b c with
   |some (x,r)=>(fg P e f r).map (.lf (b.sz N) (.d b x))
   |none=>C7
  |none=>match P.underlying t with
   |some (.struct g)=>fg P e (g.toList.map (·.type)++f) c
   |some (.array _ _)=>match L_ N P t with
    |some b=>match parse N 16 b c with
     |some (x,r)=>(fg P e f r).map (.lf (b.sz N) (.d b x))
     |none=>C7
    |none=>C7
   |_=>match c with
    |v::r=>match v.oneCell' with
     |true=>(fg P e f r).map (.lf 1 (.raw v))
     |false=>C7
    | []=>C7
 where
 a:Option Ty->Option Ty
  |some t=>match Hz t with
   |true=>Ac t
   |false=>C7
  |none=>C7
section
variable{η:Nat->BZ}{H:Hp}{t:Gq}{v:BZ}{s:SV N.T}{x:DQ}{n:Nat}
theorem J_{η:Nat->BZ}{H:Hp} :∀ {fu:Nat} {ts:List Gq} {cs:List BZ} {l:SV N.T},fg N P fu ts cs=Ac l->l.is C η H (.agg cs.toArray)
 |0,_,_,_,h=>by cases h
 |_+1,[],cs,l,h=>by
  cases cs with
  |nil=>cases h;rfl
  |cons v r=>cases h
 |fu+1,t::ts,cs,l,h=>by
  have b:∀(e:Ty),(match parse N 16 e cs with
   |some (x,r)=>(fg N P fu ts r).map (.lf (e.sz N) (.d e x))
   |none=>C7)=Ac l->l.is C η H (.agg cs.toArray):=λe h=>by
   split at h;· rename_i x r j;obtain⟨m,f,rfl⟩:=Pd.1 h;obtain⟨p,rfl,i⟩:=CE (H:=H) j;exact Uo i (J_ f)
   grind
  unfold fg at h;split at h;· exact b _ h
  ·split at h;· exact J_ h
   ·split at h;· exact b _ h
    grind
   ·split at h
    ·rename_i v r;split at h;· rename_i c;obtain⟨m,f,rfl⟩:=Pd.1 h;have:=La (N:=N) (s:=1) (a:= .raw v) (η:=η) (H:=H) rfl (by rw[A9 c];rfl) (by rw[A9 c];intro x g;simp at g;subst g;exact c) (J_ f);grind[A9]
     grind
    grind
def UX(P:GN)(nk:Nat)(t:Gq)(k:Bx N.T->Nat->Option R):Option R:=match P.info? t with
 |some a=>match a.zero with
  |some z=>match fg N P 64 [t] z.cells.toList with
   |some l=>k ⟨.loc nk 0,[],[(nk, .Ai t l)]⟩ (nk+1)
   |none=>C7
  |none=>C7
 |none=>C7
theorem Z'(g:o.op= .alloc t)(d:∀j,nk<=j->Rr j=C7)(h:UX P nk t k=Ac r):A1 P C S Rr nk o k r:=by
 unfold UX at h;split at h
 ·rename_i b e;split at h
  ·rename_i z i;split at h;· rename_i l f;refine .new h (Afi (d nk (Aae _)) λη H O a n _=>?_) λ_ _=>trivial;rw[g];refine(Ajt (size:=b.size) (bytes:=b.bytes) ⟨b,e,rfl,rfl,i⟩).mono ?_;rintro v c m ⟨B,rfl,rfl,rfl⟩;refine⟨rfl,_,ptr B 0,rfl,⟨B,z.cells,AA _ _ _,rfl,by have:=J_ (C:=C) (η:=Ez η nk (ptr B 0)) (H:=c) f;omega⟩,⟨B,AA _ _ _,rfl⟩⟩
   grind
  grind
 grind
def wa(P:GN)(t:Gq)(s:SV N.T):SV N.T:=match PS s with
 |true=>s
 |false=>match L_ N P t with
  |some a=>match eZ N a s with
   |some y=> .d a y
   |none=>s
  |none=>s
theorem Ug(h:s.is C η H v):(wa P t s).is C η H v:=by grind[wa,I4]
theorem bZ{b:BZ}(d:∀k∈CW C,k<nk)(c:B_ s.AJ nk=Aj)(h:s.is C η H v):s.is C (Ez η nk b) H v:=
 h.env (λk a=>EH (by grind)) λk a=>EH λe=>by grind[AU]
def rO(P:GN)(S:Nat->SV N.T)(nk:Nat)(t:Gq)(x:DQ)(k:Bx N.T->Nat->Option R):Option R:=match toL N (wa P t (Ax S x))with
 |some l=>match B_ l.AJ nk with
  |false=>k ⟨.loc nk 0,[],[(nk, .Ai t l)]⟩ (nk+1)
  |true=>C7
 |none=>C7
theorem pB(b:o.op= .box t x)(c:∀k∈CW C,k<nk)(d:∀j,nk<=j->Rr j=C7)(h:rO P S nk t x k=Ac r):A1 P C S Rr nk o k r:=by
 unfold rO at h;split at h
 ·rename_i l e;split at h;· rename_i f;refine .new h (Afi (d nk (Aae _)) λη H O a i _=>?_) λ_ _=>trivial;have g:=i x (by grind[af]);rw[b];refine(Aie (v:=a.eval x) rfl).mono ?_;rintro v m n ⟨B,rfl,rfl,rfl⟩;exact⟨rfl,_,ptr B 0,rfl,⟨B,_,AA _ _ _,rfl,bZ c f (oe e (Ug g))⟩,⟨B,AA _ _ _,rfl⟩⟩
  grind
 grind
def aP:SV N.T->Option (SV N.T×Nat)
 | .d t x=>Ac (.d t x,t.sz N)
 | .ct _ n| .cb _ n=>Ac (.na n,1)
 | .lt _ n m=>Ac (.d .bool (Dl ((n:Int)<(m:Int))),1)
 |s=>match PS s with
  |true=>Ac (s,1)
  |false=>C7
theorem aO{d:SV N.T}(h:aP s=Ac (d,n))(a:s.is C η H v):d.is C η H v/\v.cells.toList.length=n/\∀x∈v.cells.toList,x.oneCell'=Bp:=by
 have one:v.oneCell'=Bp->v.cells.toList.length=1/\∀x∈v.cells.toList,x.oneCell'=Bp:=λb=>by grind[A9]
 unfold aP at h;split at h;· obtain⟨e,f⟩:=CP a;grind[Bg]
 ·cases h;exact⟨a,one (by rw[a.1];rfl)⟩
 ·cases h;exact⟨⟨a.1,Agm a.2⟩,one (by rw[a.1];rfl)⟩
 ·cases h;exact⟨⟨[_],rfl,by rw[a.1];rfl⟩,one (by rw[a.1];rfl)⟩
 grind[MF]
theorem fF(cs:List BZ)(off:Nat)(a c2:List BZ)(h:off+(a.length+c2.length)<=cs.length):Ct (Ct cs off a) (off+a.length) c2=Ct cs off (a++c2):=by
 have e:(cs.take off++a).length=off+a.length:=by grind
 unfold Ct;rw[Ach (by omega),Abm (by omega),Acr,Aay (by omega),Acd,Ade,e];grind
def fC(C:List (SV N.T)):SV N.T->SV N.T->Nat->Option (SV N.T×Nat)
 | .lf s a r,l,off=>match eV N C 64 l off s a with
  |some b=>(fC C r b (off+s)).map λp=>(p.1,s+p.2)
  |none=>C7
 | .nl,l,_=>Ac (l,0)
 |_,_,_=>C7
theorem fB:∀ {b l g:SV N.T} {off n:Nat} {cs vs:List BZ},fC C b l off=Ac (g,n)->off<=cs.length->b.is C η H (.agg vs.toArray)->l.is C η H (.agg cs.toArray)->
  g.is C η H (.agg (Ct cs off vs).toArray)/\off+n<=cs.length/\vs.length=n/\∀x∈vs,x.oneCell'=Bp:=by
 intro b;induction b with
 |lf s a r _ I=>
  intro l g off n cs vs h z d q;unfold fC at h;split at h
  ·rename_i O y;obtain⟨⟨Q,m⟩,G,e⟩:=Pd.1 h;cases e;obtain⟨t,D,u,rfl,v,E,p,w,F⟩:=FE d;rw[<-v,<-p]at y;obtain⟨B,L⟩:=IH E (by simp_all) y q;rw[p]at B L;have c:(Ct cs off t).length=cs.length:=by unfold Ct;simp;omega
   obtain⟨A,J,M,K⟩:=I (cs:=Ct cs off t) (vs:=D) G (by omega) F B;rw[<-v,fF _ _ _ _ (by omega)]at A;refine⟨A,by omega,by simp;omega,λx f=>?_⟩;rcases AS.1 f with f|f;· exact w x f
   simp_all
  trivial
 |nl=>
  intro l g off n cs vs h z d q;cases h;have d:BZ.agg vs.toArray= .agg #[]:=d;have d:vs=[]:=by simpa using d
  subst d;refine⟨?_,by simpa using z,rfl,λx f=>(by cases f)⟩;unfold Ct;simpa using q
 |_=>intro l g off n cs vs h;cases h
def fW(C:List (SV N.T))(l:SV N.T)(off:Nat)(b:SV N.T):Option (SV N.T×Nat):=match b with
 | .lf s a r=>fC C (.lf s a r) l off
 |b=>match aP b with
  |some (s,n)=>(eV N C 64 l off n s).map λl=>(l,n)
  |none=>C7
theorem VF{b l g:SV N.T}{off:Nat}{cs:List BZ}(h:fW C l off b=Ac (g,n))(t:off<=cs.length)(c:b.is C η H v)(d:l.is C η H (.agg cs.toArray)):
  g.is C η H (.agg (Ct cs off v.cells.toList).toArray)/\off+n<=cs.length/\v.cells.toList.length=n/\∀x∈v.cells.toList,x.oneCell'=Bp:=by
 unfold fW at h;split at h;· have p:=c;obtain⟨i,j,u,rfl,_⟩:=p;have:=fB (vs:=i++j) h t c d;trivial
 ·split at h;· rename_i s m w;obtain⟨D,q,e⟩:=Pd.1 h;obtain⟨y,z,f⟩:=aO w c;grind[IH]
  grind
def R4:SV N.T->Nat
 | .lf s _ l=>s+R4 l
 |_=>0
theorem R3:∀ {l:SV N.T} {cs:List BZ},l.is C η H (.agg cs.toArray)->R4 l<=cs.length:=by
 intro l;induction l with
 |lf s a r _ c=>
  intro cs h;obtain⟨d,e,u,rfl,f,_,_,_,b⟩:=FE h;grind[R4]
 |_=>intro cs h;exact Abh _
def zF(P:GN)(C:List (SV N.T))(S:Nat->SV N.T)(Rr:Nat->Option (SR N.T))(nk:Nat)(t:Gq)(x y:DQ)(k:Bx N.T->Nat->Option R):Option R:=match Ax S x with
 | .loc b off=>match Rr b with
  |some (.Ai g l)=>match iT off (R4 l),fW C l off (wa P t (Ax S y))with
   |true,Ac (e,n)=>match Pw P t n with
    |true=>k ⟨.no,[],[(b, .Ai g e)]⟩ nk
    |false=>C7
   |_,_=>C7
  |_=>C7
 | .Ec b i off d z=>match Rr b,L_ N P t with
  |some (.row g a l),Ac c=>match TK C c (Ax S y)with
   |some u=>match setAt N 16 d z off c u,Qp N.T d a,aX 0 (c.sz N)with
    |some h,Ac f,Bp=>k ⟨.no,[],[(b, .row g a (l.set i.toNat (f h)))]⟩ nk
    |_,_,_=>C7
   |none=>C7
  |_,_=>C7
 |_=>C7
theorem mQ{y:DQ}(J:o.op= .store t x y)(hW:∃τ,Nv Rr S τ)(h:zF P C S Rr nk t x y k=Ac r):A1 P C S Rr nk o k r:=by
 have E:∀ {η:Nat->BZ} {H:Hp} {a:Act},(∀x∈o.op.operands,(Ax S x).is C η H (a.eval x))->(Ax S x).is C η H (a.eval x):=λe=>e x (by grind[af]);have F:∀ {η:Nat->BZ} {H:Hp} {a:Act},(∀x∈o.op.operands,(Ax S x).is C η H (a.eval x))->(Ax S y).is C η H (a.eval y):=λe=>e y (by grind[af]);unfold zF at h;split at h
 ·rename_i b off K;split at h
  ·rename_i g l w;split at h
   ·rename_i l' n U G;split at h
    ·rename_i V;obtain⟨bytes,zv,p⟩:=Dq V;refine .set h w (Afy w (by simp) λη H O a X i e L s _=>?_) λ_ _=>trivial;obtain⟨B,I,e2⟩:(SV.loc b off:SV N.T).is C η H (a.eval x):=by grind
     obtain⟨B',cs,q,e4,s⟩:=s;rw[I]at q;have q:B=B':=by simpa [ptr]using q
     subst q;subst e4;have A:=Aao (Aax U) (R3 (cs:=cs.toList) s);obtain⟨Z,q2,q3,q4⟩:=VF (cs:=cs.toList) G A (Ug (F e)) s;subst q3;rw[J];refine⟨_,⟨B,_,I,rfl,Z⟩,(BM.Rl (congrArg Ac e2) rfl rfl p rfl q4 L (by simpa using q2)).mono ?_⟩;rintro v H' O' ⟨rfl,rfl⟩;trivial
    grind
   grind
  grind
 ·rename_i b i off te z K;split at h
  ·rename_i g c l ty w ht;split at h
   ·rename_i u hu;split at h
    ·rename_i z' f hz hf h0;obtain⟨τ,Y⟩:=hW;have hw:D9 τ Rr (Ax S x):=L5 Y;rw[K]at hw;obtain⟨he,hi⟩:=hw g c l w;obtain⟨y',W,rfl⟩:=Pd.1 hi;have ee:=Adn he;subst ee;obtain⟨he2,rfl⟩:=BB hf;obtain⟨d,hd,hag,bytes,zv,p⟩:=Ke ht;refine .set h w (Afy w (by simp) λη H O a X j e L s _=>?_) λ_ _=>trivial;obtain⟨I,ad,n',c',e2⟩:(SV.Ec b i off c _:SV N.T).is C η H (a.eval x):=by rw[<-K];exact E e
     obtain⟨xs,q,M⟩:=s;subst q;obtain⟨k1,k2⟩:=CP (DK hu (F e));have D:=Bg k1;obtain⟨⟨hi0,NG⟩,m⟩:=Dg W;obtain⟨cs,g1,g2,g3⟩:=M.get m;obtain⟨Z,q2⟩:=EM hz g1 k1;have T:=Bg g1;rw[Bn]at g3;have Q:=M.len;rw[Bn]at Q;have hb2:i.toNat*c.sz N+c.sz N<=l.length*c.sz N:=by rw[<-Aea];exact Abi _ (by omega)
     rw[J];have hp:=M.part (off:=off) m (by rw[Bn];exact g3) (by rw[Bn];exact T) (by rw[Bn];omega) Z;rw[Bn]at hp;refine⟨.row (η b) g (c.sz N) l.length (Ct xs (i.toNat*c.sz N+off) (a.eval y).cells.toList),⟨_,by rw[Abq],hp⟩,(Ahm (congrArg Ac I) rfl rfl p D (by simpa using h0) k2 L (by omega)).mono ?_⟩;rintro v H' O' ⟨rfl,rfl⟩;exact⟨rfl,rfl,trivial⟩
    ·cases h
   ·cases h
  ·cases h
 grind
end
end
section
variable {N : C9} {R : Type} {P : GN} {C : List (SV N.T)} {S : Nat -> SV N.T} {Rr : Nat -> Option (SR N.T)} {nk : Nat} {o : K7} {k : Bx N.T -> Nat -> Option R} {r : R}
section
variable{H:Hp}{x:DQ}{t:Gq}{η:Nat->BZ}{i:Nat}{y:DQ}{v:BZ}{b:Bool}
theorem Aja{T:Gq}{E:DQ->Option BZ}{O:List Aw}{s off d:Nat}{c:Addr}(f:jC P s i off d)(h:E x=Ac (.pointer (Ac c))):Au P (.fieldAddr s x i) T E H O (.pointer (Ac (c.add off))):= .Ao λj w l g _ e _=>by have:=K5 (w:=w) (a:=c) f;simp_all[Kt]
def qP(P:GN)(C:List (SV N.T))(S:Nat->SV N.T)(nk:Nat)(t:Gq)(x:DQ)(i:Nat)(k:Bx N.T->Nat->Option R):Option R:=match iw P t i with
 |some (off,_,m)=>match aX 0 m with
  |true=>match Ax S x with
   | .loc b q=>k ⟨.loc b (q+off),[],[]⟩ nk
   | .pd t y q=>k ⟨.pd t y (q+off),[],[]⟩ nk
   | .Ec b j q a z=>k ⟨.Ec b j (q+off) a z,[],[]⟩ nk
   |_=>C7
  |false=>C7
 |none=>C7
theorem pk(s:o.op= .fieldAddr t x i)(h:qP P C S nk t x i k=Ac r):A1 P C S Rr nk o k r:=by
 have d:∀ {η:Nat->BZ} {H:Hp} {a:Act},(∀x∈o.op.operands,(Ax S x).is C η H (a.eval x))->(Ax S x).is C η H (a.eval x):=λe=>e x (by grind[af]);unfold qP at h;split at h
 ·rename_i off K m G;split at h
  ·rename_i I;obtain⟨w,rfl⟩:∃w,m=w+1:=⟨m-1,by simp at I;omega⟩;have u:=jC.of G;split at h
   ·rename_i b q g;refine .y h (Abu λη H O a e _=>?_) λ_ _=>trivial;obtain⟨B,f,p⟩:(SV.loc b q:SV N.T).is C η H (a.eval x):=by grind
    refine⟨ptr B (q+off),?_,B,f,rf⟩;rw[s];exact Ags u (congrArg Ac p) rf
   ·rename_i J y q g;refine .y h (Abu λη H O a e _=>?_) λ_ _=>trivial;obtain⟨l,n,D,f,E,F⟩:(SV.pd J y q:SV N.T).is C η H (a.eval x):=by rw[<-g];exact d e
    refine⟨.pointer (Ac ((l.add (n+q)).add off)),?_,l,n,D,?_,E,F⟩;· rw[s];exact Aja u (congrArg Ac f)
    ·rw[C8,Ado]
   ·rename_i b j q A z g;refine .y h (Abu λη H O a e _=>?_) λτ v=>?_
    ·obtain⟨f,l,n,c,p⟩:(SV.Ec b j q A z:SV N.T).is C η H (a.eval x):=by rw[<-g];exact d e
     rw[p]at f;refine⟨.pointer (Ac ((l.add (j.toNat*A.sz N+q)).add off)),?_,?_,l,n,c,p⟩;· rw[s];exact Aja u (congrArg Ac f)
     ·rw[p,C8,Ado];rfl
    ·have:=L5 (x:=x) v;rw[g]at this;exact this
   grind
  grind
 grind
def zQ(P:GN)(S:Nat->SV N.T)(Rr:Nat->Option (SR N.T))(nk:Nat)(t:Gq)(x y:DQ)(k:Bx N.T->Nat->Option R):Option R:=match P.underlying t,intOf (Ax S y)with
 |some (.slice e),Ac (_,n)=>match Ax S x with
  | .d (.sl c) l=>match Pw P e (c.sz N)with
   |true=>Ab (idx l n) λz=>k ⟨.pd c z 0,[],[]⟩ nk
   |false=>C7
  | .AH b=>match Rr b with
   |some (.row _ c l)=>match Pw P e (c.sz N)with
    |true=>Ab (idx l n) λz=>k ⟨.Ec b n 0 c z,[b],[]⟩ nk
    |false=>C7
   |_=>C7
  |_=>C7
 |some (.array len e),Ac (_,n)=>match Ax S x,P.info? e with
  | .loc b q,Ac a=>match a.zero with
   |some _=>Ag (0<=n/\n<(len:Int)) (k ⟨.loc b (q+n.toNat*a.size),[],[]⟩ nk)
   |none=>C7
  |_,_=>C7
 |_,_=>C7
theorem mU(M:o.op= .indexAddr t x y)(h:zQ P S Rr nk t x y k=Ac r):A1 P C S Rr nk o k r:=by
 have p:∀ {η:Nat->BZ} {H:Hp} {a:Act},(∀x∈o.op.operands,(Ax S x).is C η H (a.eval x))->(Ax S x).is C η H (a.eval x):=λd=>d x (by grind[af]);have s:∀ {η:Nat->BZ} {H:Hp} {a:Act},(∀x∈o.op.operands,(Ax S x).is C η H (a.eval x))->(Ax S y).is C η H (a.eval y):=λd=>d y (by grind[af]);unfold zQ at h;split at h
 ·rename_i e kk n ht Z;split at h
  ·rename_i G l T;split at h
   ·rename_i hB;obtain⟨bytes,zv,E⟩:=Dq hB;obtain⟨z,F,h⟩:=Bi h;refine .y h (Abu λη H O a d _=>?_) λ_ _=>trivial;obtain⟨cs,⟨v,rfl,hv⟩,I⟩:(SV.d (.sl G) l:SV N.T).is C η H (a.eval x):=by grind
    have I:[v]=[a.eval x]:=I;cases I;have m:=AV Z (s d);obtain⟨cs,g1,g2⟩:=G4.get hv F;have W:=br F;have D:∃f c,a.eval x= .slice (Ac f) l.length c:=by
     rcases hv.sl with⟨_,h0⟩|⟨f,c,e,_⟩;· omega
     ·exact⟨f,c,e⟩
    obtain⟨f,c,V⟩:=D;refine⟨AL (a.eval x) (n.toNat*G.sz N),?_,f,n.toNat*G.sz N,cs,by rw[V];rfl,g1,λj u hj=>?_⟩;· rw[M];exact Agi ht E rfl hv.sl (congrArg Ac m) W
    ·have:=g2 j u hj;rw[V,Bn]at this;exact this
   grind
  ·rename_i b T;split at h
   ·rename_i g G l W;split at h
    ·rename_i hB;obtain⟨bytes,zv,E⟩:=Dq hB;obtain⟨z,F,h⟩:=Bi h;refine .y h (λη H Of a w Y L A hi d hr hfr K Q hK=>?_) λτ _ g' t' l' J=>?_
     ·rcases hr b (.inl (by simp)) _ W with e|⟨X,h1,xs,m,hL⟩;· cases e
      subst m;obtain⟨i,h2,_⟩:=Jj Of L h1;have e1:a.eval x=η b:=by
       have:(SV.AH b:SV N.T).is C η H (a.eval x):=by rw[<-T];exact p d
       exact this.1
      have m:=AV Z (s d);have hbd:=br F;have D:∃f c,η b= .slice (Ac f) l.length c:=by
       rcases(A.IL h2).1 with⟨_,h0⟩|⟨f,c,e,_⟩;· omega
       ·exact⟨f,c,e⟩
      obtain⟨f,c,V⟩:=D;have hop:Au P o.op o.type (EV a) H (Y.map (·.2)++Of) (AL (η b) (n.toNat*G.sz N)):=by rw[M];exact Akh ht E (congrArg Ac e1) h2 (congrArg Ac m) hbd
      refine Aez (hop a w o rfl rfl (λx u e=>by simpa using e) A) A λw' hw'=>?_;exact hK _ w' H η Y (Hp.le.refl H) (λ_ _=>rfl) (λ_ _=>rfl) (λk sr h=>by cases h) L (λk hk=> .inl hk) hw' ⟨rfl,f,l.length,c,V⟩
     ·rw[W]at J;cases J;exact⟨Ty.SG G,by rw[F];rfl⟩
    ·cases h
   ·cases h
  grind
 ·rename_i len e kk n ht Z;split at h
  ·rename_i b q U T hi;split at h
   ·rename_i z F;obtain⟨hc,h⟩:=AE h;refine .y h (Abu λη H O a d _=>?_) λ_ _=>trivial;obtain⟨B,e1,I⟩:(SV.loc b q:SV N.T).is C η H (a.eval x):=by rw[<-T];exact p d
    have m:=AV Z (s d);refine⟨ptr B (q+n.toNat*U.size),?_,B,e1,rfl⟩;rw[M];exact Au.wC (z:=z) ht ⟨U,hi,rfl,rfl,F⟩ (congrArg Ac I) (congrArg Ac m) hc rfl
   ·cases h
  ·cases h
 grind
def rH(P:GN)(S:Nat->SV N.T)(nk:Nat)(t:Gq)(x y:DQ)(k:Bx N.T->Nat->Option R):Option R:=match P.underlying t,eZ N .str (Ax S x),intOf (Ax S y)with
 |some .string,Ac s,Ac (_,n)=>Ab (Ey s n) λz=>k ⟨.d (.int .u8) z,[],[]⟩ nk
 |_,_,_=>C7
theorem k_{s:Aq}(h:(SV.d .str s:SV N.T).is C η H v):v=sv s:=by obtain⟨c,a,b⟩:=h;subst a;have b:[_]=[v]:=b;grind
theorem QG(h:(SV.d .bool b:SV N.T).is C η H v):v= .bool b:=by obtain⟨d,a,c⟩:=h;subst a;have c:[_]=[v]:=c;grind
theorem CS:(SV.d .bool b:SV N.T).is C η H (.bool b):=⟨[_],rfl,rfl⟩
theorem py(b:o.op= .index t x y)(h:rH P S nk t x y k=Ac r):A1 P C S Rr nk o k r:=by
 unfold rH at h;split at h;· rename_i s l n j i g;obtain⟨z,d,h⟩:=Bi h;refine .y h (Abu λη H O a c _=>?_) λ_ _=>trivial;have e:=k_ (I4 i (c x (by grind[af])));have f:=AV g (c y (by simp_all[af]));refine⟨.int .u8 z,?_,D6 (hU d).2⟩;rw[b];exact Akb j (congrArg Ac e) (congrArg Ac f) d
 grind
end
end
end Go.GV
