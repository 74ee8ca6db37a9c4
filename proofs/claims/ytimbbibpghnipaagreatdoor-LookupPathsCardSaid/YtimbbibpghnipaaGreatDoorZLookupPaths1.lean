/- Part 1 of the texts of this claim: what its theorem leans on. -/
import Derived.WalkKit
import Derived.Deep.Quiet
import Derived.StillTail
import Derived.ProofKit
import Derived.OpenShut
import Derived.Carry
import Derived.Deep.Slices
import Derived.Scope
import Derived.Laws.StructEq
import Derived.ChangeKeysEq
import Derived.WalkLawsBesides
import Derived.Maps.OwnOps
import Derived.Maps.OwnSet
import Derived.Lib.AppendStr
import Derived.Lib.UnsafeStr
import Derived.Lib.Builder
import Derived.Laws.Externs
import Derived.LaidEqlPtr
import Derived.Lib.LaidTab
import Derived.Lib.ItoaNum
import Derived.Sort.OwnSortedInts
import Derived.Deep.Draws
import Derived.WalkSmall
import Derived.ChangeMaps5
import Derived.Test.YtimbbibpghnipaaGreatDoorProg
import Derived.KernelRfl
import Derived.Shelf.Small.Wraps
import Derived.Shelf.Strconv.Itoa0
import Derived.Shelf.Strconv.Itoa1
import Derived.Shelf.LaysM
import Derived.Shelf.Strconv.Itoa2
import Derived.Shelf.Strconv.Itoa3
import Derived.Shelf.Strconv.AppendUint10
import Derived.Shelf.Strconv.AppendInt10
import Derived.Shelf.Strconv.AppendIntPublic10
import Derived.DeepKeys4
set_option linter.all false
open Option renaming some→Ac,none→C7
open Bool renaming false→Aj,true→Bp
open Go renaming Value→BZ,Operand→Dn,TypeId→Gs,Program→GQ,World→IW,execOp→Kt,Oper→K_,IntKind→Lr
open Decidable renaming decide→Di
open Nat renaming beq→Hj,eq_of_beq_eq_true→ba,blt→bg,ble→iT
open List renaming replicate→Uh,range→a_,drop_of_length_le→rn,take_of_length_le→ru,set_eq_take_append_cons_drop→xk,drop_drop→xr,map_congr_left→Alv
open Go.Op renaming operands→ax,equalIn→lE,bytesLess→rL,equal→rS,stringOp→xh,maxDepth→Alr
open Go.Region renaming wanted→fy,binds→qo,ready→Alw
open Go.Result renaming andThen→iX,andThen_ok→nw
open Go.Instr renaming fill→nF,sureAddr→nI,sliceAt→sL,loadAt→xN
open Go.Sem renaming run_bind→oJ
open Go.Deferred renaming ofValue→rm
open Go.Addr renaming add_lit→rv,add→xz
open Go renaming sizeOf→rU
open Array renaming replicate→Alu
namespace Go
abbrev AI:=@ba
abbrev AN:=@List.getElem_mem
abbrev AS:=@List.mem_append
abbrev AT:=@Bool.and_eq_true
abbrev By:=@List.mem_map
abbrev GB:=@Classical.byContradiction
abbrev IN:=@List.take_succ_eq_append_getElem
abbrev IS:=@List.getElem?_eq_getElem
abbrev IT:=@List.all_eq_true
abbrev No:=@List.getElem?_eq_some_iff
abbrev OF:=@List.length_eq_zero_iff
abbrev Pd:=@Option.map_eq_some_iff
abbrev Pe:=@List.getElem?_append_left
abbrev Aaa:=@List.length_append
abbrev Aab:=@List.getElem?_append_right
abbrev Aac:=@Nat.le_refl
abbrev Aad:=@List.mem_flatMap
abbrev Aae:=@List.getD_eq_getElem?_getD
abbrev Aaf:=@List.mem_singleton
abbrev Aag:=@List.mem_cons_of_mem
abbrev Aai:=@List.mem_of_getElem?
abbrev Aaj:=@List.map_map
abbrev Aak:=@List.drop_eq_getElem_cons
abbrev Aal:=@List.append_assoc
abbrev Aam:=@Nat.lt_or_ge
abbrev Aan:=@Nat.le_trans
abbrev Aap:=@List.map_append
abbrev Aaq:=@List.length_map
abbrev Aar:=@List.take_length
abbrev Aas:=@List.map_cons
abbrev Aat:=@List.getElem_of_mem
abbrev Aau:=@List.mem_cons_self
abbrev Aav:=@List.mem_cons
abbrev Aaw:=@List.pairwise_iff_getElem
abbrev Aax:=@rn
abbrev Aay:=@List.nodup_cons
abbrev Aaz:=@List.mem_filter
abbrev Aba:=@List.pairwise_append
abbrev Abb:=@List.eq_nil_of_length_eq_zero
abbrev Abc:=@Nat.le_of_ble_eq_true
abbrev Abd:=@Int.toNat_of_nonneg
abbrev Abe:=@Nat.zero_le
abbrev Abf:=@Nat.ne_of_beq_eq_false
abbrev Abg:=@List.mem_range
abbrev Abh:=@List.length_take
abbrev Abi:=@Nat.mul_le_mul_right
abbrev Abj:=@List.pairwise_cons
abbrev Abk:=@Option.isSome_iff_exists
abbrev Abl:=@ru
abbrev Abm:=@Nat.zero_add
abbrev Abn:=@Int.le_refl
abbrev Abo:=@List.length_cons
abbrev Abp:=@List.length_set
abbrev Abq:=@Nat.lt_of_lt_of_le
abbrev Abr:=@Alv
abbrev Abs:=@Option.some.inj
abbrev Abt:=@List.mem_append_left
abbrev Abv:=@Nat.mul_le_mul
abbrev Aby:=@Nat.lt_of_not_le
abbrev Abz:=@List.mem_append_right
abbrev Aca:=@List.mem_of_find?_eq_some
abbrev Acb:=@List.getElem?_map
abbrev Acd:=@Int.toNat_natCast
abbrev Ace:=@List.take_append_drop
abbrev Acf:=@List.take_append_of_le_length
abbrev Acg:=@List.pairwise_singleton
abbrev Ach:=@List.nil_append
abbrev Aci:=@List.any_eq_true
abbrev Acj:=@List.mem_of_mem_take
abbrev Ack:=@List.take_append_getElem
abbrev Acl:=@List.length_singleton
abbrev Acm:=@List.flatMap_append
abbrev Acn:=@List.find?_eq_some_iff_getElem
abbrev Aco:=@List.filter_sublist
abbrev Acp:=@Prod.ext
abbrev Acq:=@List.nodup_append
abbrev Acr:=@Nat.add_sub_cancel_left
abbrev Acs:=@List.getElem?_cons_succ
abbrev Acu:=@List.find?_eq_none
abbrev Acv:=@Option.getD_some
abbrev Acw:=@List.drop_append
abbrev Acx:=@Nat.lt_trichotomy
abbrev Acy:=@List.set_append_right
abbrev Acz:=@List.getElem?_eq_none
abbrev Ada:=@Nat.mul_one
abbrev Adb:=@Nat.mul_comm
abbrev Adc:=@List.length_eq_one_iff
abbrev Ade:=@List.foldl_append
abbrev Adf:=@xr
abbrev Adh:=@List.append_nil
abbrev Adi:=@List.mem_take_iff_getElem
abbrev Adj:=@List.ext_getElem
abbrev Adk:=@List.drop_length
abbrev Adm:=@Nat.add_mul
abbrev Adn:=@List.pairwise_map
abbrev Ado:=@List.head_eq_of_cons_eq
abbrev Adp:=@Option.map_some
abbrev Adq:=@List.length_nil
abbrev Adr:=@List.filterMap_cons
abbrev Ads:=@List.idxOf_lt_length_of_mem
abbrev Adt:=@Nat.add_assoc
abbrev Adu:=@List.take_append
abbrev Adv:=@Array.getElem?_eq_some_iff
abbrev Adw:=@xk
abbrev Adx:=@Bool.or_eq_true
abbrev Ady:=@Nat.succ_mul
abbrev Adz:=@Nat.lt_succ_of_lt
abbrev Aea:=@Bool.not_eq_true'
abbrev Aeb:=@List.length_pos_iff
abbrev Aec:=@List.take_zero
abbrev Aed:=@Int.mul_le_mul_of_nonneg_right
abbrev Aee:=@List.map_nil
abbrev Aef:=@List.flatMap_singleton
abbrev Aeg:=@Int.lt_or_le
abbrev Aeh:=@Bool.false_eq_true
abbrev Aei:=@Nat.min_eq_left
abbrev Aej:=@List.range_succ
abbrev Aek:=@Nat.mul_assoc
abbrev Ael:=@List.eq_nil_or_concat
abbrev Aem:=@Option.some.injEq
abbrev Aen:=@List.getElem?_set
abbrev Aeo:=@Nat.zero_mul
abbrev Aep:=@Prod.mk.injEq
abbrev Aeq:=@List.mem_filterMap
abbrev Aer:=@List.getElem_idxOf
abbrev Aes:=@Nat.le_mul_of_pos_right
abbrev Aev:=@List.reverse_cons
abbrev Aew:=@List.nodup_nil
abbrev Aex:=@List.idxOf_append
abbrev Aey:=@List.getElem?_eraseIdx
abbrev Aez:=@List.exists_of_findSome?_eq_some
abbrev Afa:=@List.drop_zero
abbrev Afb:=@List.drop_eq_nil_of_le
abbrev Afe:=@List.length_replicate
abbrev Aff:=@Nat.lt_succ_self
abbrev Afg:=@List.filter_cons
abbrev Afh:=@List.cons_append
abbrev Afi:=@List.map_id
abbrev Afj:=@List.drop_append_of_le_length
abbrev Afk:=@Array.size_replicate
abbrev Afl:=@List.foldl_cons
abbrev Afm:=@List.find?_cons
abbrev Afn:=@List.any_append
abbrev Afo:=@Array.getD_eq_getD_getElem?
abbrev Afq:=@UInt8.toNat_ofNat'
abbrev Afr:=@Nat.lt_of_le_of_lt
abbrev Afs:=@List.set_cons_succ
abbrev Aft:=@List.getElem?_drop
abbrev Afu:=@List.filter_append
abbrev Afw:=@List.getElem?_eq_none_iff
abbrev Afx:=@List.flatMap_cons
abbrev Afy:=@List.filter_congr
abbrev Afz:=@List.ext_getElem?
abbrev Agb:=@List.Pairwise.imp_of_mem
abbrev Agc:=@Option.bind_eq_some_iff
abbrev Agd:=@Nat.mod_eq_of_lt
abbrev Agj:=@Nat.le_of_lt
abbrev Agk:=@Nat.beq_refl
abbrev Agl:=@List.length_pos_of_mem
abbrev Agm:=@Int.not_lt
abbrev Agn:=@Nat.div_add_mod
abbrev Agq:=@List.findSome?_append
abbrev Agr:=@Bool.and_eq_false_iff
abbrev Ags:=@Nat.pow_le_pow_right
abbrev Agt:=@Nat.le_succ
abbrev Agu:=@List.range_eq_range'
abbrev Agv:=@List.mem_erase_of_ne
abbrev Agw:=@List.drop_take
abbrev Ahb:=@List.flatten_append
abbrev Ahc:=@Array.length_toList
abbrev Ahr:=@Nat.eq_zero_or_pos
abbrev Ahs:=@List.set_cons_zero
abbrev Aht:=@List.getElem?_take
abbrev Aim:=@Nat.sub_self
abbrev Ain:=@List.length_range
abbrev Aio:=@Array.all_eq_true_iff_forall_mem
abbrev Aip:=@And.left
abbrev Ajf:=@Nat.le_of_not_lt
abbrev Ajg:=@Nat.le_max_right
abbrev Ajh:=@List.length_drop
abbrev Akv:=@Option.map_none
abbrev Akw:=@Nat.le_max_left
abbrev Akx:=@Nat.le_antisymm
abbrev Aky:=@List.filter_map
abbrev Akz:=@List.cons.injEq
abbrev Ala:=@List.append_inj
abbrev Alb:=@Bool.eq_iff_iff
abbrev Alc:=@Option.isSome_eq_false_iff
abbrev Ald:=@List.take_take
abbrev Ale:=@List.findSome?_eq_none_iff
abbrev Alf:=@List.drop_left
abbrev Alg:=@Option.isNone_iff_eq_none
abbrev Alh:=@Bool.true_and
abbrev Ali:=@Bool.or_false
abbrev Alj:=@Bool.not_true
abbrev Alk:=@Bool.false_or
abbrev All:=@List.getLast?_singleton
abbrev Alm:=@List.getElem?_cons_zero
abbrev Aln:=@List.filter_cons_of_pos
abbrev Alo:=@List.filter_cons_of_neg
abbrev Alp:=@BitVec.eq_of_getLsbD_eq
theorem rf{α:Sort _}{a:α}:a=a:=rfl
end Go
namespace Go.GK
section
variable{a:Act}{n:Nat}{L:List (Nat×BZ)}
def lk:List (Nat×BZ)->Nat->Option BZ
 | [],_=>C7
 |(k,v)::l,t=>match Hj k t with
  |true=>Ac v
  |false=>lk l t
structure Fr(a:Act)(n:Nat)(L:List (Nat×BZ)):Prop where
 defers:a.defers=[]
 size:a.tmps.size=n
 get:∀t v,lk L t=Ac v->a.tmps.getD t undef=v
theorem Fr.put(h:Fr a n L){d:Nat}(i:bg d n=Bp)(v:BZ):Fr (a.put (Ac d) v) n ((d,v)::L):=by
 have f:d<n:=by simp_all
 refine⟨h.defers,by simp[Act.put,h.size],λt u b=>?_⟩;simp only[lk]at b;simp only[Act.put];cases c:Hj d t with
 |true=>
  have e:d=t:=AI c;subst e;have g:v=u:=by grind
  subst g;simp[h.size,f]
 |false=>
  rw[c]at b;have ne:d≠t:=Abf c;have:=h.get t u b;simp_all
def ev(L:List (Nat×BZ)):Dn->Option BZ
 | .tmp t=>lk L t
 | .const v=>Ac v
 | .global g=>Ac (.pointer (Ac ⟨g,0,C7⟩))
 | .func f=>Ac (.func (.func f) #[] #[])
theorem Fr.eval(h:Fr a n L){x:Dn}{v:BZ}(b:ev L x=Ac v):a.eval x=v:=by
 cases x with
 |tmp t=>exact h.get t v b
 |const u=>grind[ev,Act.eval]
 |global g=>grind[ev,Act.eval]
 |func f=>grind[ev,Act.eval]
def evl(L:List (Nat×BZ)):List Dn->Option (List BZ)
 | []=>Ac []
 |x::xs=>match ev L x,evl L xs with
  |some v,Ac vs=>Ac (v::vs)
  |_,_=>C7
structure Hp where
 at_:Nat->Option Obj
 os:Os
 output:Array (Nat×ByteArray)
 tape:Nat->Question->Nat
end
def Hp.le(H a:Hp):Prop:=(∀b o,H.at_ b=Ac o->a.at_ b=Ac o)/\a.os=H.os/\a.output=H.output/\a.tape=H.tape
theorem Hp.le.refl(H:Hp):H.le H:=⟨λ_ _ h=>h,rfl,rfl,rfl⟩
theorem Hp.le.trans{A B C:Hp}(h:A.le B)(k:B.le C):A.le C:=⟨λb o x=>k.1 b o (h.1 b o x),k.2.1.trans h.2.1,k.2.2.1.trans h.2.2.1,k.2.2.2.trans h.2.2.2⟩
inductive Ax where
 |Ah (b:Nat) (o:Obj)
 |row (v:BZ) (e:Gs) (size n:Nat) (xs:List BZ)
 |emp
 |own (b:Nat) (C:IW->Prop) (lt:∀w,C w->b<w.heap.size) (kept:∀w w' row,C w->w.grownBy w' row->row≠Ac b->C w')
 |Ck (v:BZ) (e:Gs) (n:Nat) (xs:List BZ) (e':Gs) (sz:Nat) (rows:List (Option (Nat×List BZ)))
def Ax.block:Ax->Option Nat
 | .Ah b _=>Ac b
 | .row v .. =>v.ownBlock
 | .emp=>C7
 | .own b .. =>Ac b
 | .Ck .. =>C7
def Ax.has:Ax->Nat->Prop
 | .Ah c _,b=>c=b
 | .row v ..,b=>v.ownBlock=Ac b
 | .emp,_=>False
 | .own c ..,b=>c=b
 | .Ck v _ _ xs _ _ a,b=>v.ownBlock=Ac b\/∃(i:Nat) (u:BZ) (m:Nat) (ys:List BZ),xs[i]?=Ac u/\a[i]?=Ac (Ac (m,ys))/\u.ownBlock=Ac b
theorem Ajv{r:Ax}{b:Nat}(h:r.block=Ac b):r.has b:=by cases r<;>simp_all [Ax.block,Ax.has]
theorem Afp{r:Ax}{b c:Nat}(h:r.block=Ac b)(k:r.has c):c=b:=by cases r<;>simp_all [Ax.block,Ax.has]
structure IE(w:IW)(v:BZ)(e:Gs)(n:Nat)(xs:List BZ)(e':Gs)(sz:Nat)(rows:List (Option (Nat×List BZ))):Prop where
 top:w.ownsRow 0 e 1 v n xs
 row:∀(i:Nat) (u:BZ) (m:Nat) (ys:List BZ),xs[i]?=Ac u->rows[i]?=Ac (Ac (m,ys))->w.ownsRow 0 e' sz u m ys
 one:∀(i j:Nat) (u u':BZ) (m m':Nat) (ys ys':List BZ) (b:Nat),xs[i]?=Ac u->rows[i]?=Ac (Ac (m,ys))->xs[j]?=Ac u'->rows[j]?=Ac (Ac (m',ys'))->u.ownBlock=Ac b->u'.ownBlock=Ac b->i=j
 out:∀(i:Nat) (u:BZ) (m:Nat) (ys:List BZ) (b:Nat),xs[i]?=Ac u->rows[i]?=Ac (Ac (m,ys))->u.ownBlock=Ac b->v.ownBlock≠Ac b
def Ax.ok(w:IW):Ax->Prop
 | .Ah b o=>w.heap[b]?=Ac o
 | .row v e size n xs=>w.ownsRow 0 e size v n xs
 | .emp=>True
 | .own _ C _ _=>C w
 | .Ck v e n xs d sz a=>IE w v e n xs d sz a
section
variable{w:IW}{H:Hp}{O:List Ax}{r:Ax}{w':IW}{i b:Nat}{row:Option Nat}{r':Ax}
structure SH(w:IW)(H:Hp)(O:List Ax):Prop where
 MW:∀b o,H.at_ b=Ac o->w.heap[b]?=Ac o
 os:w.os=H.os
 output:w.output=H.output
 tape:w.tape=H.tape
 ok:∀(i:Nat) (r:Ax),O[i]?=Ac r->r.ok w
 Iz:∀(i:Nat) (r:Ax) (b:Nat),O[i]?=Ac r->r.has b->H.at_ b=C7
 nd:∀(i j:Nat) (r r':Ax) (b:Nat),O[i]?=Ac r->O[j]?=Ac r'->r.has b->r'.has b->i=j
theorem Ax.ok.lt(h:r.ok w)(a:r.has b):b<w.heap.size:=by
 cases r with
 |Ah c o=>
  subst a;exact(Adv.1 h).1
 |row v e size n q=>exact(IW.ownsRow.lt h b a).2
 |emp=>trivial
 |own c C lt d=>
  subst a;exact lt w h
 |Ck v e n q t x f=>
  rcases a with a|⟨i,u,m,s,l,p,a⟩;· exact(IW.ownsRow.lt (IE.top h) b a).2
  ·exact(IW.ownsRow.lt (IE.row h i u m s l p) b a).2
theorem Ax.ok.grown(h:r.ok w)(c:w.grownBy w' row)(a:∀b,r.has b->row≠Ac b):r.ok w':=by
 cases r with
 |Ah b o=>
  have g:=Ax.ok.lt h (b:=b) rfl;show w'.heap[b]?=Ac o;rw[c.block b g (λe=>a b rfl e.symm)];exact h
 |row v e size n x=>
  refine IW.ownsRow.kept h c ?_;cases d:v.ownBlock with
  |none=>simp
  |some b=>exact .inr (λe=>a b d e.symm)
 |emp=>trivial
 |own b C lt f=>exact f w w' row h c (a b rfl)
 |Ck v e n x y z l=>
  refine⟨IW.ownsRow.kept (IE.top h) c ?_,λi u m p j k=>IW.ownsRow.kept (IE.row h i u m p j k) c ?_,IE.one h,IE.out h⟩;· cases d:v.ownBlock with
   |none=>simp
   |some b=>exact .inr (λe=>a b (.inl d) e.symm)
  ·cases d:u.ownBlock with
   |none=>simp
   |some b=>exact .inr (λe=>a b (.inr ⟨i,u,m,p,j,k,d⟩) e.symm)
theorem SH.lt(h:SH w H O){o:Obj}(a:H.at_ b=Ac o):b<w.heap.size:=(Adv.1 (h.MW b o a)).1
theorem SH.grown(h:SH w H O)(hg:w.grownBy w' C7):SH w' H O where
 MW b o hb:=by rw[hg.block b (h.lt hb) (by simp)];exact h.MW b o hb
 os:=hg.os.trans h.os
 output:=hg.output.trans h.output
 tape:=hg.tape.trans h.tape
 ok i r hr:=(h.ok i r hr).grown hg (by simp)
 Iz:=h.Iz
 nd:=h.nd
theorem SH.drew(h:SH w H O):SH {w with drawn:=w.drawn+1} H O where
 MW:=h.MW
 os:=h.os
 output:=h.output
 tape:=h.tape
 ok i r hr:=by
  have:=h.ok i r hr;cases r with
  |own b C lt kept=>exact kept w _ C7 this ⟨rfl,rfl,rfl,Aac _,λ_ _ _=>rfl⟩ (by simp)
  |Ck v e n xs e' sz rows=>
   have t:IE w v e n xs e' sz rows:=this;exact⟨t.top,t.row,t.one,t.out⟩
  |_=>trivial
 Iz:=h.Iz
 nd:=h.nd
theorem BH{α:Type}{x y:α}{l:List α}(h:(x::l)[i]?=Ac y):(i=0/\y=x)\/∃j,i=j+1/\l[j]?=Ac y:=by grind
theorem SH.push(h:SH w H O)(hg:w.grownBy w' C7)(hr:r.ok w')(hnew:∀b,r.has b->w.heap.size<=b):SH w' H (r::O)where
 MW b o hb:=by rw[hg.block b (h.lt hb) (by simp)];exact h.MW b o hb
 os:=hg.os.trans h.os
 output:=hg.output.trans h.output
 tape:=hg.tape.trans h.tape
 ok i s hs:=by
  rcases BH hs with⟨rfl,rfl⟩|⟨j,rfl,hj⟩;· omega
  ·exact(h.ok j s hj).grown hg (by simp)
 Iz i s b hs hb:=by
  rcases BH hs with⟨rfl,rfl⟩|⟨j,rfl,hj⟩;· cases he:H.at_ b with
   |none=>rfl
   |some o=>have:=h.lt he;grind
  ·exact h.Iz j s b hj hb
 nd i j s s' b hi hj hb hb':=by
  rcases BH hi with⟨rfl,rfl⟩|⟨i',rfl,hi'⟩
  ·rcases BH hj with⟨rfl,rfl⟩|⟨j',rfl,hj'⟩;· rfl
   ·have:=(h.ok j' s' hj').lt hb';grind
  ·rcases BH hj with⟨rfl,rfl⟩|⟨j',rfl,hj'⟩;· have:=(h.ok i' s hi').lt hb;grind
   ·rw[h.nd i' j' s s' b hi' hj' hb hb']
theorem SH.alloc(h:SH w H O)(o:Obj):SH (w.alloc o) H (.Ah w.heap.size o::O):=
 h.push (IW.grownBy_alloc w o C7) (heap_alloc_new w o) (λb c=>by grind[Ax.has])
theorem SH.vZ(h:SH w H O)(hi:O[i]?=Ac r)(m:∀b,row=Ac b->r.has b)(q:w.grownBy w' row)
  (D:r'.ok w') (p:∀b,r'.has b->r.has b\/w.heap.size<=b):SH w' H (O.set i r'):=by
 have key:∀j s,(O.set i r')[j]?=Ac s->(j=i/\s=r')\/(j≠i/\O[j]?=Ac s):=λj s f=>by grind
 have n:∀b,r'.has b->H.at_ b=C7:=λb g=>by
  rcases p b g with g|g;· exact h.Iz i r b hi g
  ·cases C:H.at_ b with
   |none=>rfl
   |some o=>have:=h.lt C;omega
 refine⟨λb o l=>?_,q.os.trans h.os,q.output.trans h.output,q.tape.trans h.tape,λj s f=>?_,λj s b f c=>?_,λj k s u b f a c d=>?_⟩;· rw[q.block b (h.lt l) (λe=>by rw[h.Iz i r b hi (m b e.symm)]at l;grind)];exact h.MW b o l
 ·rcases key j s f with⟨rfl,rfl⟩|⟨y,a⟩;· omega
  ·exact(h.ok j s a).grown q (λb p e=>y (h.nd j i s r b a hi p (m b e)))
 ·rcases key j s f with⟨rfl,rfl⟩|⟨y,a⟩;· grind
  ·exact h.Iz j s b a c
 ·rcases key j s f with⟨rfl,rfl⟩|⟨y,A⟩
  ·rcases key k u a with⟨rfl,rfl⟩|⟨B,v⟩;· rfl
   ·exfalso;rcases p b c with e|e;· exact B (h.nd k j u r b v hi d e)
    ·have:=(h.ok k u v).lt d;omega
  ·rcases key k u a with⟨rfl,rfl⟩|⟨B,v⟩
   ·exfalso;rcases p b d with e|e;· exact y (h.nd j k s r b A hi c e)
    ·have:=(h.ok j s A).lt c;omega
   ·exact h.nd j k s u b A v c d
theorem SH.set(h:SH w H O)(hi:O[i]?=Ac r)(c:w.grownBy w' r.block)
 (d:r'.ok w') (a:∀b,r'.has b->r.has b\/w.heap.size<=b):SH w' H (O.set i r'):=h.vZ hi (λ_ h=>Ajv h) c d a
def Hp.put(H:Hp)(b:Nat)(o:Obj):Hp:= {H with at_:=λc=>if c=b then Ac o else H.at_ c}
end
section
variable{w:IW}{H:Hp}{O:List Ax}
theorem SH.drop(h:SH w H O)(i:Nat):SH w H (O.eraseIdx i)where
 MW:=h.MW
 os:=h.os
 output:=h.output
 tape:=h.tape
 ok j r hr:=by
  rw[Aey]at hr;split at hr;· exact h.ok _ _ hr
  ·exact h.ok _ _ hr
 Iz j r b hr hb:=by
  rw[Aey]at hr;split at hr;· exact h.Iz _ _ b hr hb
  ·exact h.Iz _ _ b hr hb
 nd j k r r' b hr hr' hb hb':=by
  rw[Aey]at hr hr';split at hr<;>split at hr';· exact h.nd _ _ _ _ b hr hr' hb hb'
  ·have:=h.nd _ _ _ _ b hr hr' hb hb';omega
  ·have:=h.nd _ _ _ _ b hr hr' hb hb';omega
  ·have:=h.nd _ _ _ _ b hr hr' hb hb';omega
theorem SH.PN(h:SH w H O){i:Nat}{r:Ax}(hi:O[i]?=Ac r){b:Nat}(g:r.has b){o:Obj}(m:w.heap[b]?=Ac o):
  H.le (H.put b o)/\SH w (H.put b o) (O.eraseIdx i):=by
 have d:=h.Iz i r b hi g;have k:=h.drop i;refine⟨⟨λc l a=>?_,rfl,rfl,rfl⟩,⟨λc l a=>?_,h.os,h.output,h.tape,k.ok,λj s c f a=>?_,k.nd⟩⟩
 ·grind[Hp.put]
 ·simp only[Hp.put]at a;by_cases e:c=b;· grind
  ·simp[e]at a;exact h.MW c l a
 ·simp only[Hp.put];have:c≠b:=λe=>by
   subst e;rw[Aey]at f;split at f;· have:=h.nd _ _ _ _ c f hi a g;omega
   ·have:=h.nd _ _ _ _ c f hi a g;omega
  simp[this,k.Iz j s c f a]
theorem SH.pick{a:List Ax}(h:SH w H O)(f:Nat->Nat)(hf:∀i r,a[i]?=Ac r->O[f i]?=Ac r)
  (hinj:∀i j,i<a.length->j<a.length->f i=f j->i=j):SH w H a where
 MW:=h.MW
 os:=h.os
 output:=h.output
 tape:=h.tape
 ok i r hr:=h.ok _ _ (hf i r hr)
 Iz i r b hr hb:=h.Iz _ _ b (hf i r hr) hb
 nd i j r r' b hr hr' hb hb':=hinj i j (No.1 hr).1 (No.1 hr').1 (h.nd _ _ _ _ b (hf i r hr) (hf j r' hr') hb hb')
def At(Q:Exit->Act->IW->Prop)(e:Exit)(n:Nat)(L:List (Nat×BZ))(H:Hp)(O:List Ax):Prop:= ∀a w,Fr a n L->SH w H O->Q e a w
def Wp(P:GQ)(c:Code)(Q:Exit->Act->IW->Prop)(n:Nat)(L:List (Nat×BZ))(H:Hp)(O:List Ax):Prop:= ∀a w,Fr a n L->SH w H O->c.wp P Q a w
def Fh(P:GQ)(c:Array K_)(Q:Exit->Act->IW->Prop)(b:List K_)(n:Nat)(L:List (Nat×BZ))(H:Hp)(O:List Ax):Prop:= ∀a w,Fr a n L->SH w H O->wpList P c Q b a w
end
section
variable {P : GQ} {Q Q2 : Exit -> Act -> IW -> Prop} {n : Nat} {L L' : List (Nat × BZ)} {H : Hp} {O : List Ax}
section
variable{y x:Code}{c:Dn}{a:Act}{v:BZ}{b:List K_}{d:Array K_}{T:Gs}
theorem Aho(h:Wp P y Q n L H O):At (Exit.then (y.wp P Q) Q2) .normal n L H O:=h
theorem Wp.seq(h:Wp P x (Exit.then (y.wp P Q) Q) n L H O):Wp P (.seq x y) Q n L H O:=λa w b c=>wp_seq (h a w b c)
theorem Wp.skip(h:At Q .normal n L H O):Wp P .skip Q n L H O:=λa w b c=>wp_skip (h a w b c)
theorem Aji(e:ev L c=Ac (.bool Bp))(ht:Wp P x Q n L H O):Wp P (.cond c x y) Q n L H O:=
 λa w b d=>wp_cond_true (b.eval e) (ht a w b d)
theorem Aiq(e:ev L c=Ac (.bool Aj))(ht:Wp P y Q n L H O):Wp P (.cond c x y) Q n L H O:=
 λa w b d=>wp_cond_false (b.eval e) (ht a w b d)
theorem Wp.region{id:Nat}{l:List K_}(h:Fh P l.toArray Q l n L H O):Wp P (.region id l.toArray Aj) Q n L H O:=
 λa w b c=>wp_region_lit (h a w b c)
theorem Fh.nil{a:Array K_}(h:At Q .normal n L H O):Fh P a Q [] n L H O:=h
def Au(P:GQ)(op:Op)(T:Gs)(E:Dn->Option BZ)(H:Hp)(O:List Ax)(v:BZ):Prop:= ∀(a:Act) (w:IW) (o:K_),o.op=op->o.type=T->(∀x u,E x=Ac u->a.eval x=u)->SH w H O->o.quietAt P a (λw'=>SH w' H O) w v
theorem Aet{o:K_}{w:IW}{C:IW->Prop}{next:Act->IW->Prop}
  (b:o.quietAt P a C w v) (c:C w) (h:∀w',C w'->next (a.put o.dst v) w'):o.wp P a w next Q:=by
 unfold K_.quietAt K_.quietUpon at b;unfold K_.wp;split at b<;>rename_i heq<;>(try rw[heq]);· obtain⟨rfl,rfl⟩:=b;exact h _ c
 ·obtain⟨rfl,rfl⟩:=b;exact h _ c
 ·obtain⟨rfl,b⟩:=b;refine b.mono ?_;grind
 grind
def BM(P:GQ)(op:Op)(T:Gs)(E:Dn->Option BZ)(H:Hp)(O:List Ax)(R:BZ->Hp->List Ax->Prop):Prop:= ∀(a:Act) (w:IW) (o:K_) (next:Act->IW->Prop) (Q:Exit->Act->IW->Prop),o.op=op->o.type=T->(∀x u,E x=Ac u->a.eval x=u)->SH w H O->(∀v w' b c,H.le b->R v b c->SH w' b c->next (a.put o.dst v) w')->o.wp P a w next Q
theorem Fh.op{c:Array K_}{d:Tmp}{op:Op}{pos:String}{i:Array Edge}
  (h:Au P op T (ev L) H O v) (l:bg d n=Bp) (k:Fh P c Q b n ((d,v)::L) H O):
  Fh P c Q ({dst:=Ac d,op,type:=T,pos,after:=i,guard:=C7} ::b) n L H O:=λa w f g=>
 wpList_plain rfl λK j=>Aet (h a w _ rfl rfl (λ_ _ m=>f.eval m) g) g λo e=>j _ _ (k _ _ (f.put l v) e)
theorem Fh.opS0{op:Op}{pos:String}{j:Array Edge}{R:BZ->Hp->List Ax->Prop}
  (h:BM P op T (ev L) H O R) (k:∀v c e,H.le c->R v c e->Fh P d Q b n L c e):
  Fh P d Q ({dst:=C7,op,type:=T,pos,after:=j,guard:=C7} ::b) n L H O:=λa w i o=>
 wpList_plain rfl λK l=>h a w _ K Q rfl rfl (λ_ _ p=>i.eval p) o λv q c e f m g=>l _ _ (k v c e f m _ _ i g)
def BL(a:Array K_)(j:Nat):Option Tmp:=(a[j]?).bind (·.dst)
theorem Gr{j:Nat}{t:Tmp}{b:Bool}(e:BL d j=Ac t)(c:a.tmps.getD t undef= .bool b):yielded d a.tmps j=Ac b:=by
 unfold BL at e;unfold yielded;have:a.tmps[t]?=Ac (.bool b):=by rw[Afo]at c;grind[undef]
 grind
end
end
abbrev SP:=Hp->BZ->Prop
def names(a:Array K_)(o:K_):List Tmp:=o.dst.toList++o.looksAt a
def meets(a:Array K_)(x y:K_):Bool:=
 (match x.dst with|some d=>(names a y).any (Hj d)|none=>Aj)||(match y.dst with|some d=>(names a x).any (Hj d)|none=>Aj)
def GW:Nat->List K_->Bool
 |_,[]=>Bp
 |i,o::os=>(o.after.all λe=> !Region.binds .any e||bg e.on i)&&GW (i+1) os
def Wl(o:K_)(i:Nat):Bool:=o.after.any λe=>qo .any e&&Hj e.on i
def nC(a:Array K_):Nat->K_->Nat->Bool
 |0,o,i=>Wl o i
 |f+1,o,i=>Wl o i||o.after.any λe=>qo .any e&&((a[e.on]?).map λx=>nC a f x i).getD Aj
def Ue(a:Array K_)(k j:Nat)(o:K_):Nat->List K_->Bool
 |_,[]=>Bp
 |i,x::xs=>(iT j i||((!(meets a x o)&&bg j k)||nC a 8 o i))&&Ue a k j o (i+1) xs
def FP(l:List K_)(a:Array K_)(k:Nat):Nat->List K_->Bool
 |_,[]=>Bp
 |j,o::os=>Ue a k j o 0 l&&FP l a k (j+1) os
theorem Nq:∀ {l:List K_} {i:Nat},GW i l=Bp->∀(j:Nat) (o:K_),l[j]?=Ac o->∀e∈o.after,qo .any e=Bp->e.on<i+j
 | [],_,_,j,o,h=>by grind
 |x::f,i,c,j,o,h=>by
  simp only[GW,AT]at c;cases j with
  |zero=>
   simp at h;subst h;intro e d a;have:=(Aio.1 c.1) e d;simp_all
  |succ j=>
   intro e d a;have:=Nq c.2 j o (by grind) e d a;omega
def cur(l:List K_)(Φ:Nat->SP)(S:Nat->SP)(a:Nat->Bool)(t:Nat):Nat->SP
 |0=>Φ t
 |i+1=>if a i=Bp/\((l[i]?).bind (·.dst))=Ac t then S i else cur l Φ S a t i
section
variable {P : GQ} {Q : Exit -> Act -> IW -> Prop}
section
variable{a:Array K_}{o:K_}{t:Tmp}
theorem EZ(h:t∈o.looksAt a):(names a o).any (Hj t)=Bp:=by simp_all[names]
theorem Kr(h:o.dst=Ac t):(names a o).any (Hj t)=Bp:=by simp[names,h]
def AD(p:Nat->Bool):Nat->Nat
 |0=>0
 |m+1=>AD p m+if p m then 0 else 1
theorem S6{p:Nat->Bool} :∀ {m:Nat},AD p m=0->∀i,i<m->p i=Bp
 |0,_,i,h=>by omega
 |m+1,a,i,h=>by
  simp only[AD]at a;by_cases e:i=m;· grind
  ·exact S6 (p:=p) (m:=m) (by omega) i (by omega)
theorem S7{p q:Nat->Bool} :∀ {m:Nat},(∀i,i<m->p i=q i)->AD p m=AD q m
 |0,_=>rfl
 |m+1,h=>by simp only[AD];rw[h m (by omega),S7 λi a=>h i (by omega)]
theorem WE{p q:Nat->Bool}{i:Nat} :∀ {m:Nat},i<m->p i=Aj->q i=Bp->(∀j,j≠i->q j=p j)->AD p m=AD q m+1
 |0,h,_,_,_=>by omega
 |m+1,h,b,c,a=>by
  simp only[AD];by_cases e:i=m;· grind[S7]
  ·rw[WE (m:=m) (by omega) b c a,a m (λx=>e x.symm)];omega
end
end
section
variable{w:IW}{size:Nat}{H:Hp}{t:Gs}{P:GQ}{O:List Ax}{u v:BZ}{n:Nat}{xs:List BZ}{i bytes:Nat}{z:BZ}{e:Gs}{d:TypeDesc}{b:Hp}{p:BZ}
inductive SV where
 |is (v:BZ)
 |sat (p:SP)
theorem AX(h:P.underlying t=Ac d):(underlying t).run P w= .ok d w:=run_underlying h w
structure TI(P:GQ)(t:Gs)(size bytes:Nat)(z:BZ):Prop where
 ex:∃i,P.info? t=Ac i/\i.size=size/\i.bytes=bytes/\i.zero=Ac z
theorem TI.of(h:(P.info? t).map (λi=>(i.size,i.bytes,i.zero))=Ac (size,bytes,Ac z)):TI P t size bytes z:=by
 cases a:P.info? t with
 |none=>grind
 |some i=>simp[a]at h;exact⟨i,a,h.1,h.2.1,h.2.2⟩
theorem TI.sizeOf(h:TI P t size bytes z):(rU t).run P w= .ok size w:=by obtain⟨i,b,a,_⟩:=h.ex;simp_all[rU,typeInfo]
theorem TI.zeroValue(h:TI P t size bytes z):(Go.zeroValue t).run P w= .ok z w:=by obtain⟨i,b,_,_,a⟩:=h.ex;simp_all[Go.zeroValue,typeInfo]
def DM:TypeDesc->Bool
 | .struct _=>Bp
 | .array _ _=>Bp
 |_=>Aj
theorem Cg(h:P.underlying t=Ac d):(isAgg t).run P w= .ok (DM d) w:=by simp[isAgg,AX h];cases d<;>simp[DM]
def ptr(b off:Nat):BZ:= .pointer (Ac ⟨b,off,C7⟩)
def AW(v:BZ)(k:Nat):BZ:=match v with
 | .slice (Ac a) _ _=> .pointer (Ac (a.add k))
 |_=>undef
theorem C8(a:Addr)(m n:Nat):(a.add m).add n=a.add (m+n):=by grind[xz]
def DV(H:Hp)(p:BZ)(u:BZ):Prop:= ∃a cur t b,p= .pointer (Ac a)/\a.spot=C7/\H.at_ a.block=Ac (.cells cur t b)/\cur[a.off]?=Ac u
def TC(v:BZ)(n:Nat):Prop:=(v= .slice C7 0 0/\n=0)\/∃a cap,v= .slice (Ac a) n cap/\n<=cap
structure Sl(H:Hp)(v:BZ)(size n:Nat)(xs:List BZ):Prop where
 len:xs.length=n*size
 sl:TC v n
 cells:∀j u,xs[j]?=Ac u->DV H (AW v j) u
theorem DV.mono(h:H.le b)(i:DV H p u):DV b p u:=by obtain⟨a,cur,t,c,d,e,f,g⟩:=i;exact⟨a,cur,t,c,d,e,h.1 _ _ f,g⟩
theorem Sl.mono(h:H.le b)(a:Sl H v size n xs):Sl b v size n xs:=
 ⟨a.len,a.sl,λj u c=>(a.cells j u c).mono h⟩
theorem Sl.nil(H:Hp)(size:Nat):Sl H (.slice C7 0 0) size 0 []:=⟨by simp, .inl ⟨rfl,rfl⟩,λj u h=>by grind⟩
theorem DV.cell(g:SH w H O)(f:DV H p u):∃a,p= .pointer (Ac a)/\w.cell? a=Ac u:=by obtain⟨a,cur,t,h,b,c,d,e⟩:=f;exact⟨a,b,by simp[IW.cell?,g.MW _ _ d,c,e]⟩
theorem SH.L0(c:SH w H O){B:Nat}{cs:Array BZ}{b:Nat×Nat}(hi:O[i]?=Ac (.Ah B (.cells cs t b))){off:Nat}(d:cs[off]?=Ac u):
  w.cell? ⟨B,off,C7⟩=Ac u:=by
 have:=c.ok i _ hi;grind[Ax.ok,IW.cell?]
theorem SH.fW(f:SH w H O)(hi:O[i]?=Ac (.row v e size n xs)){j:Nat}(c:xs[j]?=Ac u):
  ∃a,AW v j= .pointer (Ac a)/\a.spot=C7/\v.ownBlock=Ac a.block/\w.cell? a=Ac u/\w.frozen? a=Aj:=by
 have h:=f.ok i _ hi;rcases h.2 with⟨rfl,rfl⟩|⟨g,cap,cur,rfl,_,d,_,_,_,b⟩;· have:xs=[]:=Abb (by simpa using h.1);grind
 ·have:=h.cells (g:=g) rfl j u c;rw[rv]at this;refine⟨⟨g,0+j,C7⟩,by grind[AW,rv],rfl,rfl,this,?_⟩;grind[IW.frozen?]
theorem SH.IM(b:SH w H O)(hi:O[i]?=Ac (.row v e size n xs)):TC v n/\xs.length=n*size:=by
 have h:=b.ok i _ hi;refine⟨?_,h.1⟩;rcases h.2 with⟨rfl,rfl⟩|⟨g,cap,cur,rfl,_,_,a,_⟩;· exact .inl ⟨rfl,rfl⟩
 ·exact .inr ⟨_,_,rf,a⟩
theorem SH.freeze(f:SH w H O)(hi:O[i]?=Ac (.row v e size n xs)):
  ∃d,H.le d/\SH w d (O.eraseIdx i)/\Sl d v size n xs:=by
 have h:=f.ok i _ hi;rcases h.2 with⟨rfl,rfl⟩|⟨g,cap,cur,rfl,_,o,p,_,m,a⟩;· have:xs=[]:=Abb (by simpa using h.1);subst this;exact⟨H,Hp.le.refl H,f.drop i,Sl.nil H size⟩
 ·obtain⟨k,l⟩:=f.PN hi (b:=g) rfl o;refine⟨_,k,l,h.1, .inr ⟨_,_,rfl,p⟩,λj u c=>⟨⟨g,0+j,C7⟩,cur,e,(0,0),by grind[AW,rv],rfl,by simp[Hp.put],?_⟩⟩;grind
end
section
variable {P : GQ} {T : Gs} {E : Dn -> Option BZ} {H : Hp} {O : List Ax}
section
variable{v:BZ}{x c y:Dn}
theorem Au.Ao{op:Op}(h:∀(a:Act) (w:IW) (o:K_),o.op=op->o.type=T->(∀x u,E x=Ac u->a.eval x=u)->SH w H O->(Kt a.eval o).run P w= .ok (.value v) w):Au P op T E H O v:=by intro a w o d b c e;grind[K_.quietAt,K_.quietUpon]
theorem Au.move(e:E x=Ac v):Au P (.move x) T E H O v:= .Ao λa w o d _ c _=>by simp_all[Kt]
theorem Au.assign(e:E x=Ac v):Au P (.assign x) T E H O v:= .Ao λa w o d _ c _=>by simp_all[Kt]
theorem Aka(e:E c=Ac (.bool Bp))(g:E x=Ac v):Au P (.pick c x y) T E H O v:= .Ao λa w o f _ d _=>by simp_all[Kt,asBool]
theorem Ajz(e:E c=Ac (.bool Aj))(g:E y=Ac v):Au P (.pick c x y) T E H O v:= .Ao λa w o f _ d _=>by simp_all[Kt,asBool]
end
section ints
variable {k : Lr} {x y : Dn} {m n : Int} {Tx Ty : Gs}
section
variable{s d:Gs}{ds:TypeDesc}
theorem Ail(e:E x=Ac (.int k m))(f:E y=Ac (.int k n)):Au P (.binOp .add Tx x y Ty) T E H O (.int k (k.wrap (m+n))):= .Ao λa w o d _ c _=>by simp_all[Kt,eqGuard,binOp,Op.intArith]
theorem Aic(e:E x=Ac (.int k m))(f:E y=Ac (.int k n)):Au P (.binOp .sub Tx x y Ty) T E H O (.int k (k.wrap (m-n))):= .Ao λa w o d _ c _=>by simp_all[Kt,eqGuard,binOp,Op.intArith]
theorem Aih(e:E x=Ac (.int k m))(f:E y=Ac (.int k n)):Au P (.binOp .mul Tx x y Ty) T E H O (.int k (k.wrap (m*n))):= .Ao λa w o d _ c _=>by simp_all[Kt,eqGuard,binOp,Op.intArith]
theorem DX{k:Lr}{n:Int}(h:k.min<=n/\n<=k.max):k.wrap n=n:=by cases k<;>simp[Lr.min,Lr.max,Lr.signed,Lr.bits]at h<;>simp[Lr.wrap,Lr.signed,Lr.bits]<;>omega
theorem UO(h: -9223372036854775808<=n/\n<=9223372036854775807):Lr.i64.min<=n/\n<=Lr.i64.max:=by trivial
theorem q7(h:0<=n/\n<=255):Lr.u8.min<=n/\n<=Lr.u8.max:=by trivial
theorem Au.add(a:E x=Ac (.int k m))(b:E y=Ac (.int k n))(h:k.min<=m+n/\m+n<=k.max):Au P (.binOp .add Tx x y Ty) T E H O (.int k (m+n)):=by have:=Ail (P:=P) (T:=T) (H:=H) (O:=O) (Tx:=Tx) (Ty:=Ty) a b;grind[DX]
theorem Au.sub(a:E x=Ac (.int k m))(b:E y=Ac (.int k n))(h:k.min<=m-n/\m-n<=k.max):Au P (.binOp .sub Tx x y Ty) T E H O (.int k (m-n)):=by have:=Aic (P:=P) (T:=T) (H:=H) (O:=O) (Tx:=Tx) (Ty:=Ty) a b;grind[DX]
theorem Au.mul(a:E x=Ac (.int k m))(b:E y=Ac (.int k n))(h:k.min<=m*n/\m*n<=k.max):Au P (.binOp .mul Tx x y Ty) T E H O (.int k (m*n)):=by have:=Aih (P:=P) (T:=T) (H:=H) (O:=O) (Tx:=Tx) (Ty:=Ty) a b;grind[DX]
theorem Au.eql(e:E x=Ac (.int k m))(f:E y=Ac (.int k n)):Au P (.binOp .eql Tx x y Ty) T E H O (.bool (Di (m=n))):= .Ao λa w o d _ c _=>by simp[Kt,d,c x _ e,c y _ f,eqGuard,binOp,Op.intCmp];rfl
theorem Au.neq(e:E x=Ac (.int k m))(f:E y=Ac (.int k n)):Au P (.binOp .neq Tx x y Ty) T E H O (.bool (Di (m≠n))):= .Ao λa w o d _ c _=>by simp[Kt,d,c x _ e,c y _ f,eqGuard,binOp,Op.intCmp];rfl
theorem Au.lss(e:E x=Ac (.int k m))(f:E y=Ac (.int k n)):Au P (.binOp .lss Tx x y Ty) T E H O (.bool (Di (m<n))):= .Ao λa w o d _ c _=>by simp_all[Kt,eqGuard,binOp,Op.intCmp]
theorem Au.leq(e:E x=Ac (.int k m))(f:E y=Ac (.int k n)):Au P (.binOp .leq Tx x y Ty) T E H O (.bool (Di (m<=n))):= .Ao λa w o d _ c _=>by simp_all[Kt,eqGuard,binOp,Op.intCmp]
theorem Au.gtr(e:E x=Ac (.int k m))(f:E y=Ac (.int k n)):Au P (.binOp .gtr Tx x y Ty) T E H O (.bool (Di (n<m))):= .Ao λa w o d _ c _=>by simp_all[Kt,eqGuard,binOp,Op.intCmp]
theorem Au.geq(e:E x=Ac (.int k m))(f:E y=Ac (.int k n)):Au P (.binOp .geq Tx x y Ty) T E H O (.bool (Di (n<=m))):= .Ao λa w o d _ c _=>by simp_all[Kt,eqGuard,binOp,Op.intCmp]
theorem Aix{c:Lr}(i:P.underlying s=Ac ds)(f:P.underlying d=Ac (.int c))(j:E x=Ac (.int k m)):Au P (.convert s d x) T E H O (.int c (c.wrap m)):= .Ao λa w o h _ g _=>by simp[Kt,h,g x _ j,convert,AX i,AX f,Conv.intToInt]
theorem Au.conv{a:Lr}(c:P.underlying s=Ac ds)(b:P.underlying d=Ac (.int a))(e:E x=Ac (.int k m))(h:a.min<=m/\m<=a.max):Au P (.convert s d x) T E H O (.int a m):=by have:=Aix (P:=P) (T:=T) (H:=H) (O:=O) c b e;grind[DX]
end
end ints
section words
variable {x y : Dn} {Tx Ty : Gs}
section
variable{k:Lr}{a:BitVec 64}{n:Nat}
def K3(a:BitVec 64):BZ:= .int .u64 a.toNat
theorem shift_shl(a:BitVec 64)(k:Lr)(n:Nat):Op.shift .shl .u64 a.toNat k n=pure (K3 (a<<<n)):=by
 have b:¬((n:Int)<0):=by omega
 have key:∀j:Nat,Lr.u64.wrap ((a.toNat:Int)*2^j)=((a.toNat*2^j %2^64:Nat):Int):=λj=>by rfl
 unfold Op.shift;show(pure (.int .u64 (Lr.u64.wrap ((a.toNat:Int)*2^ (min n 64)))):Sem BZ)=_;rw[key,K3,BitVec.toNat_shiftLeft,Nat.shiftLeft_eq];by_cases h:n<=64;· grind
 ·have c:a.toNat*2^n %2^64=0:=by
   rw[show n=64+(n-64) by omega,Nat.pow_add,<-Aek,Nat.mul_right_comm,Nat.mul_mod_left]
  grind
theorem shift_shr(a:BitVec 64)(k:Lr)(n:Nat):Op.shift .shr .u64 a.toNat k n=pure (K3 (a>>>n)):=by
 have c:¬((n:Int)<0):=by omega
 have key:∀j:Nat,(a.toNat:Int).fdiv (2^j)=((a.toNat/2^j:Nat):Int):=λj=>by grind
 unfold Op.shift;show(pure (.int .u64 ((a.toNat:Int).fdiv (2^ (min n 64)))):Sem BZ)=_;rw[key,K3,BitVec.toNat_ushiftRight,Nat.shiftRight_eq_div_pow];by_cases h:n<=64;· grind
 ·rw[Nat.min_eq_right (by omega)];have d:a.toNat/2^n=0:=Nat.div_eq_of_lt (Abq a.isLt (Ags (by simp) (by omega)));rw[d,Nat.div_eq_of_lt a.isLt]
theorem Aie(e:E x=Ac (K3 a))(f:E y=Ac (.int k (n:Int))):Au P (.binOp .shl Tx x y Ty) T E H O (K3 (a<<<n)):= .Ao λg w o d _ c _=>by simp_all[K3,Kt,eqGuard,binOp,shift_shl]
theorem Aid(e:E x=Ac (K3 a))(f:E y=Ac (.int k (n:Int))):Au P (.binOp .shr Tx x y Ty) T E H O (K3 (a>>>n)):= .Ao λg w o d _ c _=>by simp_all[K3,Kt,eqGuard,binOp,shift_shr]
end
end words
section
variable{x:Dn}{t:Gs}{v:BZ}{e:Gs}{bytes:Nat}{z:BZ}{d:TypeDesc}{w:IW}{y:Dn}{i n size:Nat}{Tx:Gs}{b:Bool}{vs:List BZ}{a:Bool}{B off:Nat}{k:Lr}{xs:List BZ}{cs:Array BZ}
theorem Au.not(e:E x=Ac (.bool b)):Au P (.unOp .not Tx x) T E H O (.bool (!b)):= .Ao λf w o d _ c _=>by simp_all[Kt,Op.unary]
theorem Mt(ht:P.underlying Tx=Ac .bool):(rS Tx (.bool a) (.bool b)).run P w= .ok (a==b) w:=by
 have h:∀d,(lE (d+1) Tx (.bool a) (.bool b)).run P w= .ok (a==b) w:=λd=>by simp[lE,AX ht]
 grind[rS,Alr]
theorem Aje{Ty:Gs}(ht:P.underlying Tx=Ac .bool)(f:E x=Ac (.bool a))(g:E y=Ac (.bool b)):Au P (.binOp .eql Tx x y Ty) T E H O (.bool (a==b)):= .Ao λh w o e _ d _=>by simp_all[Kt,eqGuard,binOp,Mt]
theorem Ajc{Ty:Gs}(ht:P.underlying Tx=Ac .bool)(f:E x=Ac (.bool a))(g:E y=Ac (.bool b)):Au P (.binOp .neq Tx x y Ty) T E H O (.bool (!(a==b))):= .Ao λh w o e _ d _=>by simp_all[Kt,eqGuard,binOp,Mt]
theorem Au.extract{vs:Array BZ}(e:E x=Ac (.tuple vs))(hi:vs[i]?=Ac v):Au P (.extract x i) T E H O v:= .Ao λf w o d _ c _=>by simp_all[Kt,Instr.extract]
theorem Au.len(ht:P.underlying t=Ac (.slice e))(h:E x=Ac v)(f:TC v n):Au P (.call {callee:= .builtin .len,args:= #[x],argTypes:= #[t]}) T E H O (.int .i64 n):= .Ao λi w o g _ d _=>by rcases f with⟨rfl,rfl⟩|⟨a,cap,rfl,_⟩<;>simp[Kt,g,d x _ h,resolve,invoke,builtin,Builtin.len_,AX ht,goInt]
theorem Akm{s:ByteArray}(ht:P.underlying t=Ac .string)(e:E x=Ac (.string s)):Au P (.call {callee:= .builtin .len,args:= #[x],argTypes:= #[t]}) T E H O (.int .i64 s.size):= .Ao λf w o d _ c _=>by simp[Kt,d,c x _ e,resolve,invoke,builtin,Builtin.len_,AX ht,goInt]
theorem Au.wV{len off':Nat}{i:Int}(ht:P.underlying t=Ac (.array len e))(d:TI P e size bytes z)(j:E x=Ac (ptr B off))(l:E y=Ac (.int k i))
  (h:0<=i/\i<len) (c:off+i.toNat*size=off'):Au P (.indexAddr t x y) T E H O (ptr B off'):= .Ao λm w o g _ f _=>by
 simp only[ptr]at*;subst c;simp[Kt,g,f x _ j,f y _ l,Instr.indexAt,asIntOf,AX ht,nI,h,d.sizeOf,xz]
theorem Agf{i:Int}(ht:P.underlying t=Ac (.slice e))(d:TI P e size bytes z)(l:E x=Ac v)(g:TC v n)(m:E y=Ac (.int k i))
  (h:0<=i/\i<n):Au P (.indexAddr t x y) T E H O (AW v (i.toNat*size)):= .Ao λp w o j _ f _=>by
 rcases g with⟨rfl,rfl⟩|⟨a,cap,rfl,_⟩;· omega
 ·simp[Kt,j,f x _ l,f y _ m,Instr.indexAt,asIntOf,AX ht,h,d.sizeOf,AW]
theorem Akb{d:Gs}{i:Int}{s j:Nat}(ht:P.underlying t=Ac (.slice e))(b:TI P e size bytes z)(p:E x=Ac v)(l:O[j]?=Ac (.row v d s n xs))(q:E y=Ac (.int k i))
 (h:0<=i/\i<n):Au P (.indexAddr t x y) T E H O (AW v (i.toNat*size)):=λa w o m f g c=>Agf (H:=H) (O:=O) ht b p (c.IM l).1 q h a w o m f g c
theorem run_loadCells{P:GQ}{w:IW}{a:Addr} :∀ {vs:List BZ} {i:Nat} {acc:Array BZ},(∀j u,vs[j]?=Ac u->w.cell? (a.add (i+j))=Ac u)->
  (loadCellsFrom a i vs.length acc).run P w= .ok (acc++vs.toArray) w
 | [],i,acc,_=>by rfl
 |v::vs,i,acc,h=>by
  have b:=h 0 v rfl;have d:=run_loadCells (P:=P) (w:=w) (a:=a) (vs:=vs) (i:=i+1) (acc:=acc.push v) (λj u c=>by have:=h (j+1) u (by grind);grind);simp_all[loadCellsFrom]
theorem Dl{a:Addr}(ht:P.underlying t=Ac d)(b:DM d=Aj)(h:w.cell? a=Ac v):(loadVar t a).run P w= .ok v w:=by simp_all[loadVar,Cg]
theorem Dm{a:Addr}(ht:P.underlying t=Ac d)(c:DM d=Bp)(b:TI P t vs.length bytes z)(h:∀j u,vs[j]?=Ac u->w.cell? (a.add j)=Ac u):(loadVar t a).run P w= .ok (.agg vs.toArray) w:=by have:=run_loadCells (P:=P) (w:=w) (a:=a) (vs:=vs) (i:=0) (acc:= #[]) (λj u e=>by grind);simp[loadVar,Cg ht,c,b.sizeOf,loadCells,this]
theorem Agg{m:Gs}{f:Nat×Nat}(ht:P.underlying t=Ac d)(g:DM d=Aj)(c:E x=Ac (ptr B off))(hi:O[i]?=Ac (.Ah B (.cells cs m f)))(l:cs[off]?=Ac v):
  Au P (.load t x) T E H O v:= .Ao λn w o j _ h k=>by
 simp only[ptr]at c;simp[Kt,j,h x _ c,xN,nI,Dl ht g (k.L0 hi l)]
theorem Akp{r:Gs}{h:Nat×Nat}(ht:P.underlying t=Ac d)(k:DM d=Bp)(e:TI P t vs.length bytes z)(f:E x=Ac (ptr B off))(hi:O[i]?=Ac (.Ah B (.cells cs r h)))
  (q:∀j u,vs[j]?=Ac u->cs[off+j]?=Ac u):Au P (.load t x) T E H O (.agg vs.toArray):= .Ao λs w o n _ l p=>by
 simp only[ptr]at f;have:=Dm (P:=P) (w:=w) (a:=⟨B,off,C7⟩) ht k e (λj u m=>by rw[rv];exact p.L0 hi (q j u m));simp_all[Kt,xN,nI]
theorem sV.cells(e:SH w H O){k:Nat}(h0:vs≠ [])(h:∀j u,vs[j]?=Ac u->DV H (AW v (k+j)) u):
  ∃a:Addr,AW v k= .pointer (Ac a)/\∀j u,vs[j]?=Ac u->w.cell? (a.add j)=Ac u:=by
 cases v with
 |slice b n c=>
  cases b with
  |none=>
   cases vs with
   |nil=>grind
   |cons y i=>
    obtain⟨a,d,_⟩:=(h 0 y rfl).cell e;trivial
  |some b=>
   refine⟨b.add k,rfl,λj u g=>?_⟩;obtain⟨a,d,f⟩:=(h j u g).cell e;grind[AW,BZ.pointer.injEq,Option.some.injEq,C8]
 |_=>
  cases vs with
  |nil=>grind
  |cons y i=>
   obtain⟨a,d,_⟩:=(h 0 y rfl).cell e;trivial
theorem Ahl{u:BZ}{k:Nat}(ht:P.underlying t=Ac d)(j:DM d=Aj)(f:E x=Ac (AW v k))(hi:O[i]?=Ac (.row v e size n xs))(q:xs[k]?=Ac u):
  Au P (.load t x) T E H O u:= .Ao λr w o m _ l p=>by
 obtain⟨a,g,_,_,h,_⟩:=p.fW hi q;simp_all[Kt,xN,nI,Dl]
theorem Akl{k:Nat}(ht:P.underlying t=Ac d)(r:DM d=Bp)(c:TI P t vs.length bytes z)(h0:vs≠ [])(p:E x=Ac (AW v k))(hi:O[i]?=Ac (.row v e size n xs))(m:∀j u,vs[j]?=Ac u->xs[k+j]?=Ac u):
  Au P (.load t x) T E H O (.agg vs.toArray):= .Ao λD w o B _ s C=>by
 have h:=C.ok i _ hi;rcases h.2 with⟨rfl,rfl⟩|⟨g,cap,cur,rfl,_,F,_,_,_,f⟩;· have l:xs=[]:=Abb (by simpa using h.1);cases vs with
  |nil=>grind
  |cons y G=>have:=m 0 y rfl;grind
 ·have q:∀j u,vs[j]?=Ac u->w.cell? ((xz ⟨g,0,C7⟩ k).add j)=Ac u:=λj u A=>by
   have:=h.cells (g:=g) rfl (k+j) u (m j u A);grind[C8]
  simp only[AW]at p;simp[Kt,B,s x _ p,xN,nI,Dm (w:=w) ht r c q]
end
end
theorem E4(w:IW)(g:Nat)(cs:Array BZ):w.grownBy (w.setRow g cs) (Ac g):=
 ⟨rfl,rfl,rfl,by simp,λk _ a=>setRow_other w g k cs (λe=>a (by rw[e]))⟩
def Cy(xs:List BZ)(off:Nat)(vs:List BZ):List BZ:=xs.take off++vs++xs.drop (off+vs.length)
theorem VJ(xs:List BZ)(off:Nat)(v:BZ)(h:off<xs.length):Cy xs off [v]=xs.set off v:=by grind[Cy,xk]
theorem II(xs:List BZ)(off:Nat)(vs:List BZ)(h:off+vs.length<=xs.length):(Cy xs off vs).length=xs.length:=by grind[Cy]
theorem ZF(xs:List BZ)(off m:Nat)(vs:List BZ)(h:off+vs.length<=m)(h2:m<=xs.length):(Cy xs off vs).take m=Cy (xs.take m) off vs:=by
 unfold Cy;have c:(xs.take off++vs).length=off+vs.length:=by grind
 rw[Adu,c,Abl (by omega),Ald,Aei (by omega),Agw]
theorem K5{P:GQ}{w:IW}{t:Gs}{v:BZ}{g off bytes:Nat}{z:BZ}{cur:Array BZ}{e:Gs}(c:TI P t v.cells.size bytes z)(d:w.heap[g]?=Ac (.cells cur e (0,0)))(a:off+v.cells.size<=cur.size)
  (h1:∀u∈v.cells,u.oneCell'=Bp):(storeVar t ⟨g,off,C7⟩ v).run P w= .ok () (w.setRow g (Cy cur.toList off v.cells.toList).toArray):=by
 have:=run_storeCells_at (P:=P) g off e v.cells.toList 0 cur w d (by omega) (λu f=>h1 u (by grind));simp[storeVar,c.sizeOf,this,Cy]
section
variable {P : GQ} {Q : Exit -> Act -> IW -> Prop} {n : Nat} {L : List (Nat × BZ)} {H : Hp} {O : List Ax} {ops : Array K_} {rest : List K_}
variable {T : Gs} {E : Dn -> Option BZ}
section
variable{size:Nat}{t:Gs}{v z:BZ}{bytes:Nat}{e:Gs}{i:Nat}{x:Dn}{cs:Array BZ}{R:BZ->Hp->List Ax->Prop}{y:Dn}{B:Nat}{vs:List BZ}{m:Nat}{xs:List BZ}{w:IW}{op:Op}{off:Nat}{f:FuncId}{zs:Array BZ}{ps:List (Nat×Dn)}{fn:Func}{X:Ending->IW->Prop}
theorem BM.mono{d:BZ->Hp->List Ax->Prop}(h:BM P op T E H O R)(p:∀v b c,R v b c->d v b c):BM P op T E H O d:=
 λa w o next Q i j k l m=>h a w o next Q i j k l λv q b c e f g=>m v q b c e (p _ _ _ f) g
theorem BM.Ao(h:∀(a:Act) (w:IW) (o:K_),o.op=op->o.type=T->(∀x u,E x=Ac u->a.eval x=u)->SH w H O->
  ∃v w' b c,(Kt a.eval o).run P w= .ok (.value v) w'/\H.le b/\R v b c/\SH w' b c):BM P op T E H O R:=by
 intro a w o next Q i j k l m;obtain⟨v,w',b,c,d,e,f,g⟩:=h a w o i j k l;unfold K_.wp;rw[d];exact m v w' b c e f g
theorem BM.LO(h:∀(a:Act) (w:IW) (o:K_),o.op=op->o.type=T->(∀x u,E x=Ac u->a.eval x=u)->SH w H O->
  ∃w' b c,(Kt a.eval o).run P w= .ok .skip w'/\H.le b/\R undef b c/\SH w' b c):BM P op T E H O R:=by
 intro a w o next Q i j k l m;obtain⟨w',b,c,d,e,f,g⟩:=h a w o i j k l;unfold K_.wp;rw[d];exact m undef w' b c e f g
theorem BM.Rs(A:E x=Ac (ptr B off))(K:E y=Ac v)(p:v.cells.toList=vs)(m:TI P t size bytes z)(I:vs.length=size)
  (h1:∀u∈vs,u.oneCell'=Bp) (hi:O[i]?=Ac (.Ah B (.cells cs e (0,0)))) (r:off+vs.length<=cs.size):
  BM P (.store t x y) T E H O (λ_ C D=>C=H/\D=O.set i (.Ah B (.cells (Cy cs.toList off vs).toArray e (0,0)))):= .LO λa w o G _ q s=>by
 have l:=s.ok i _ hi;have d:v.cells.size=vs.length:=by grind
 have f:=K5 (P:=P) (w:=w) (t:=t) (v:=v) (g:=B) (off:=off) (e:=e) (by rw[d,I];omega) l (by omega) (λu J=>h1 u (by grind));simp only[ptr]at A;refine⟨_,H,_,?_,Hp.le.refl H,⟨rfl,rfl⟩,s.set hi (E4 w B _) (setRow_heap w B cs _ e _ l) (λb F=> .inl F)⟩;simp_all[Kt,Instr.storeAt,nI]
theorem Fh.Rs{pos:String}{g:Array Edge}{cs':Array BZ}(l:ev L x=Ac (ptr B off))(m:ev L y=Ac v)(j:v.cells.toList=vs)(f:TI P t size bytes z)(h:vs.length=size)
  (h1:∀u∈vs,u.oneCell'=Bp) (hi:O[i]?=Ac (.Ah B (.cells cs e (0,0)))) (a:off+vs.length<=cs.size) (d:(Cy cs.toList off vs).toArray=cs')
  (k:Fh P ops Q rest n L H (O.set i (.Ah B (.cells cs' e (0,0))))):
  Fh P ops Q ({dst:=C7,op:= .store t x y,type:=T,pos,after:=g,guard:=C7} ::rest) n L H O:=
 Fh.opS0 (BM.Rs l m j f h h1 hi a) (by grind)
theorem Fh.oE{pos:String}{f:Array Edge}(j:ev L x=Ac (ptr B off))(l:ev L y=Ac v)(h:v.oneCell'=Bp)(c:TI P t 1 bytes z)
  (hi:O[i]?=Ac (.Ah B (.cells cs e (0,0)))) (a:off<cs.size)
  (k:Fh P ops Q rest n L H (O.set i (.Ah B (.cells (cs.setIfInBounds off v) e (0,0))))):
  Fh P ops Q ({dst:=C7,op:= .store t x y,type:=T,pos,after:=f,guard:=C7} ::rest) n L H O:=by
 have g:v.cells.toList=[v]:=by cases v<;>simp_all [BZ.cells,BZ.oneCell']
 refine Fh.Rs j l g c rf (λu d=>by grind) hi (by grind) ?_ k;grind[VJ,Array.toList_setIfInBounds]
theorem Ahf{u:BZ}{k sz:Nat}(M:E x=Ac (AW v k))(X:E y=Ac u)(D:u.cells.toList=vs)(C:TI P t sz bytes z)(J:vs.length=sz)(h0:0<sz)
  (h1:∀u∈vs,u.oneCell'=Bp) (hi:O[i]?=Ac (.row v e size m xs)) (c:k+vs.length<=xs.length):
  BM P (.store t x y) T E H O (λ_ R S=>R=H/\S=O.set i (.row v e size m (Cy xs k vs))):= .LO λa w o V _ F K=>by
 have d:=K.ok i _ hi;rcases d.2 with⟨rfl,rfl⟩|⟨g,cap,cur,rfl,A,G,I,U,p,l⟩;· have:xs=[]:=Abb (by simpa using d.1);grind
 ·have j:u.cells.size=vs.length:=by grind
  have B:m*size<=cur.size:=by grind[Nat.mul_le_mul_right]
  have h:k+vs.length<=m*size:=by grind
  have q:=K5 (P:=P) (w:=w) (t:=t) (v:=u) (g:=g) (off:=k) (e:=e) (by rw[j,J];omega) G (by omega) (λu W=>h1 u (by rw[<-D];simpa using W));rw[D]at q;simp only[AW,rv,Abm]at M;refine⟨_,H,_,?_,Hp.le.refl H,⟨rfl,rfl⟩,K.set hi (E4 w g (Cy cur.toList k vs).toArray) (r':= .row (.slice (Ac ⟨g,0,C7⟩) m cap) e size m (Cy xs k vs)) ?_ (λb A=> .inl A)⟩;· simp[Kt,V,F x _ M,F y _ X,Instr.storeAt,nI,q]
  ·refine⟨by rw[II _ _ _ c];exact d.1, .inr ⟨g,cap,_,rf,A,setRow_heap w g cur _ e _ G,I,U,?_,?_⟩⟩;· simp only[List.size_toArray];rw[II _ _ _ (by simp;omega)];simpa using p
   ·rw[ZF _ _ _ _ h (by simpa using B),l]
theorem SH.IP(c:SH w H O)(e:Gs)(size:Nat):SH w H (.row (.slice C7 0 0) e size 0 []::O):=
 c.push (IW.grownBy.refl w C7) (IW.ownsRow_nil w 0 e size) (λb a=>by trivial)
def Zg(E:Dn->Option BZ):List (Nat×Dn)->Option (List (Nat×BZ))
 | []=>Ac []
 |(i,x)::r=>match E x,Zg E r with
  |some v,Ac vs=>Ac ((i,v)::vs)
  |_,_=>C7
theorem HF{E:Dn->Option BZ}{a:Act}(d:∀x u,E x=Ac u->a.eval x=u):∀ {ps:List (Nat×Dn)} {vs:List (Nat×BZ)},Zg E ps=Ac vs->ps.map (λp=>(p.1,a.eval p.2))=vs
 | [],vs,h=>by grind[Zg]
 |(i,x)::r,vs,h=>by
  simp only[Zg]at h;cases b:E x with
  |none=>grind
  |some v=>
   cases c:Zg E r with
   |none=>grind
   |some e=>
    simp[b,c]at h;subst h;simp[d x v b];have:=HF d c;omega
theorem Au.build{fs:Array Field}{vs:List (Nat×BZ)}{places:Array (Nat×Nat)}(ht:P.underlying t=Ac (.struct fs))(p:TI P t size bytes z)(g:z.cells=zs)
  (m:∀w,(fs.mapM λf=>do pure (f.offset,<-rU f.type):Sem (Array (Nat×Nat))).run P w= .ok places w) (e:Zg E ps=Ac vs) (k:nF (places[·]?) zs vs=Ac cs):Au P (.build t ps.toArray) T E H O (.agg cs):= .Ao λa w o l _ j _=>by
 have h:(ps.toArray.map λ(i,x)=>(i,a.eval x)).toList=vs:=by simpa using HF j e
 simp only[Kt,l,Instr.build,oJ,p.zeroValue,nw,AX ht,g];simp_all
theorem Au.rV{len b c:Nat}{l:BZ}{vs:List (Nat×BZ)}(ht:P.underlying t=Ac (.array len e))(s:TI P t size bytes z)(k:TI P e b c l)(j:z.cells=zs)
  (h:Zg E ps=Ac vs) (q:nF (λi=>Ac (i*b,b)) zs vs=Ac cs):Au P (.build t ps.toArray) T E H O (.agg cs):= .Ao λa w o r _ p _=>by
 have m:(ps.toArray.map λ(i,x)=>(i,a.eval x)).toList=vs:=by simpa using HF p h
 simp only[Kt,r,Instr.build,oJ,s.zeroValue,nw,AX ht,j,k.sizeOf,m,q];rfl
theorem X_(l:List BZ):∀(k:Nat) (acc:Array BZ) (i:Nat),((l.zipIdx k).foldl (λcs (p:BZ×Nat)=>cs.setIfInBounds p.2 p.1) acc)[i]?=if k<=i/\i<k+l.length/\i<acc.size then l[i-k]? else acc[i]?:=by
 induction l with
 |nil=>simp;omega
 |cons v l h=>
  intro k acc i;rw[List.zipIdx_cons,Afl,h (k+1) (acc.setIfInBounds k v) i];grind
def Src(w:IW)(x:BZ)(size m:Nat)(a:List BZ):Prop:=a.length=m*size/\((x= .slice C7 0 0/\m=0)\/∃b c,x= .slice (Ac b) m c/\∀j u,a[j]?=Ac u->w.cell? (b.add j)=Ac u)
theorem SH.oG(a:SH w H O)(hi:O[i]?=Ac (.row v e size m xs)):Src w v size m xs:=by
 have h:=a.ok i _ hi;refine⟨h.1,?_⟩;rcases h.2 with⟨rfl,rfl⟩|⟨g,cap,cur,rfl,_⟩;· simp
 ·exact .inr ⟨_,_,rf,h.cells (g:=g) rf⟩
theorem SH.T7(f:SH w H O)(b:Sl H v size m xs):Src w v size m xs:=by
 refine⟨b.len,?_⟩;rcases b.sl with⟨rfl,rfl⟩|⟨a,cap,rfl,_⟩;· simp
 ·refine .inr ⟨_,_,rfl,λj u e=>?_⟩;obtain⟨g,c,d⟩:=(b.cells j u e).cell f;grind[AW]
theorem BM.append{s:Dn}{y:BZ}{d:List BZ}(ht:P.underlying t=Ac (.slice e))(hz:TI P e size bytes z)(K:z.cells.size=size)(h0:0<size)(hs:E s=Ac v)(hx:E x=Ac y)
  (hi:O[i]?=Ac (.row v e size m xs)) (A:∀w,SH w H O->Src w y size B d) (h1:∀u∈d,u.oneCell'=Bp) (p:(m+B)*bytes<=140737488355328) (hl:m+B<=140737488355328):
  BM P (.call {callee:= .builtin .append,args:= #[s,x],argTypes:= #[t,t]}) T E H O (λv' H' O'=>H'=H/\O'=O.set i (.row v' e size (m+B) (xs++d))):=by
 intro a w o next Q ho hT N Y k;have f:=Y.ok i _ hi;simp only[Ax.ok]at f;obtain⟨ii,q,g1,U,V⟩:=hz.ex;have key:∀v' C,C.ownsRow 0 e size v' (m+B) (xs++d)->w.grownBy C v.ownBlock->(v'.ownBlock=v.ownBlock\/∀b,v'.ownBlock=Ac b->w.heap.size<=b)->next (a.put o.dst v') C:=λv' C k1 k2 F=>
  k v' C H _ (Hp.le.refl H) ⟨rfl,rfl⟩ (Y.set hi k2 k1 (λb p=>by grind[Ax.has]));obtain⟨j,A⟩:=A w Y;rcases A with⟨rfl,rfl⟩|⟨M,c,rfl,h⟩;· have hn:d=[]:=Abb (by omega);have J:=run_append_owned_none (P:=P) (w:=w) 0 t o.type e ii size ht q v m xs f;unfold K_.wp;simp[Kt,ho,resolve,invoke,builtin,N s _ hs,N x _ hx,J,iX];exact key v w (by grind) (IW.grownBy.refl _ _) (.inl rfl)
 ·obtain⟨v',C,R,k1,k2,F⟩:=run_append_own (P:=P) w 0 t o.type e ii z size bytes ht q V g1 U K h0 v m xs f M B c d j h h1 (by grind[maxLen]) p (Abe _);unfold K_.wp;simp[Kt,ho,resolve,invoke,builtin,N s _ hs,N x _ hx,R,iX];refine key v' C k1 k2 ?_;subst g1;rcases f.2 with⟨rfl,rfl⟩|⟨g,cap,cur,rfl,_,hg,hnc,_,W,X⟩;· right;have Z:xs=[]:=Abb (by simpa using f.1);obtain⟨v2,w2,l,q1,_,_⟩:=run_append_own (P:=P) w w.heap.size t o.type e ii z ii.size bytes ht q V rfl U K h0 (.slice C7 0 0) 0 [] (IW.ownsRow_nil w _ e _) M B c d j h h1 (by simp only[maxLen];omega) p (Aac _);rw[R]at l;injection l with G S;subst G;exact λb p=>(IW.ownsRow.lt q1 b p).1
  ·by_cases r:m+B<=cap
   ·left;have I:m*ii.size+d.length<=cur.size:=by rw[j,W,<-Adm];exact Abi _ r
    have l:=run_append_room (P:=P) w t o.type e ii ht q g m cap cur hg M B c d j h h1 r I;rw[R]at l;injection l with G S;rw[G];rfl
   ·right;have l:=run_append_grow (P:=P) w t o.type e ii z ht q V ⟨g,0,C7⟩ m cap xs f.1 (f.cells (g:=g) rfl) M B c d j h (by omega) (by omega) (growslice_fits (by omega) (by rw[U];exact p));rw[R]at l;injection l with G S;intro b p;rw[G]at p;simp[BZ.ownBlock]at p;omega
structure TY(P:GQ)(f:FuncId):Prop where
 ex:∃fn,P.funcs[f]?=Ac fn/\(fn.name== "runtime.NumGoroutine")=Aj/\fn.body.isNone=Aj
theorem TY.run(h:TY P f)(args:Array BZ)(w:IW):(callFunc f args).run P w= .ok (.enter f args) w:=by
 obtain⟨fn,c,d,e⟩:=h.ex;have a:¬fn.name= "runtime.NumGoroutine" :=by grind
 have b:¬fn.body=C7:=λh=>by grind
 simp[callFunc,c,a,b]
def NV(E:Dn->Option BZ):List Dn->Option (List BZ)
 | []=>Ac []
 |x::xs=>match E x,NV E xs with
  |some v,Ac vs=>Ac (v::vs)
  |_,_=>C7
theorem Ic{a:Act}(e:∀x u,E x=Ac u->a.eval x=u):∀ {xs:List Dn} {vs:List BZ},NV E xs=Ac vs->xs.map a.eval=vs
 | [],vs,b=>by grind[NV]
 |x::xs,vs,b=>by
  simp only[NV]at b;cases c:E x with
  |none=>grind
  |some v=>
   cases d:NV E xs with
   |none=>grind
   |some f=>
    simp[c,d]at b;subst b;simp[e x v c,Ic e d]
def Ret(H:Hp)(R:BZ->Hp->List Ax->Prop)(e:Ending)(w':IW):Prop:= ∃v a b,e= .returned v/\H.le a/\SH w' a b/\R v a b
def TB(P:GQ)(f:FuncId)(args:List BZ)(H:Hp)(O:List Ax)(R:BZ->Hp->List Ax->Prop):Prop:= ∀w,SH w H O->Calls P f args.toArray w (Ret H R)
def jH(P:GQ)(f:FuncId)(args:List BZ)(H:Hp)(O:List Ax)(v:BZ):Prop:= ∀w,SH w H O->Calls P f args.toArray w λe w'=>e= .returned v/\SH w' H O
theorem TB.mono{args:List BZ}{c:BZ->Hp->List Ax->Prop}(h:TB P f args H O R)(j:∀v a b,H.le a->R v a b->c v a b):TB P f args H O c:=λw k=>
 (h w k).mono λ_ _ ⟨v,a,b,e,d,g,i⟩=>⟨v,a,b,e,d,g,j _ _ _ d i⟩
def KS:Nat->List BZ->List (Nat×BZ)
 |_,[]=>[]
 |i,v::vs=>(i,v)::KS (i+1) vs
theorem Pk:∀(vs:List BZ) (i t:Nat) (v:BZ),lk (KS i vs) t=Ac v->i<=t/\vs[t-i]?=Ac v
 | [],_,_,_,h=>by trivial
 |u::c,i,t,v,h=>by
  simp only[KS,lk]at h;cases a:Hj i t with
  |true=>
   simp_all
  |false=>
   rw[a]at h;obtain⟨d,b⟩:=Pk c (i+1) t v h;grind
theorem Fr.enter(vs:List BZ)(n:Nat)(h:iT vs.length n=Bp):Fr {tmps:=vs.toArray++Alu (n-vs.toArray.size) undef,defers:=[]} n (KS 0 vs):=by
 have g:=Abc h;refine⟨rfl,by grind,λt v f=>?_⟩;obtain⟨_,c⟩:=Pk vs 0 t v f;have a:t<vs.length:=(No.1 c).1
 simp_all[Array.getElem?_append]
theorem lq{c:Code}(d:P.funcs[f]?=Ac fn)(b:fn.body=Ac c)(e:fn.ntmps=n)(a:iT vs.length n=Bp)
  (h:Wp P c (bodyPost P fn X) n (KS 0 vs) H O)  (g:SH w H O):Calls P f vs.toArray w X:=by
 subst e;exact calls_of_wp d b (h _ w (Fr.enter vs _ a) g)
def lC(a:Array BZ)(r:ResultVar):Sem BZ:=match r with
 | .tmp t=>pure (a.getD t undef)
 | .cell b t=>do loadVar t (<-asAddr (a.getD b undef))
theorem Mz(fn:Func)(a:Array BZ):results fn a=(do let vs<-fn.results.mapM (lC a);pure (if h:vs.size=1 then vs[0]else .tuple vs)):=by rfl
theorem Ajb(c:fn.results= #[])(k:∀w,SH w H O->X (.returned (.tuple #[])) w):At (bodyPost P fn X) .normal n L H O:=λa w b d=>⟨b.defers,_,by simp[results,c],k w d⟩
end
end
section
variable{w:IW}{H:Hp}{O:List Ax}
theorem SH.weaken{a:Hp}(h:SH w a O)(hle:H.le a):SH w H O where
 MW b o hb:=h.MW b o (hle.1 b o hb)
 os:=h.os.trans hle.2.1
 output:=h.output.trans hle.2.2.1
 tape:=h.tape.trans hle.2.2.2
 ok:=h.ok
 Iz i r b hi hb:=by
  have:=h.Iz i r b hi hb;cases he:H.at_ b with
  |none=>rfl
  |some o=>rw[hle.1 b o he]at this;omega
 nd:=h.nd
theorem SH.nG(h:SH w H O)(k:Nat):SH w H (O.drop k):=
 h.pick (λi=>k+i) (λi r a=>by grind) (λi j _ _ h=>by omega)
end
section
variable {P : GQ} {T : Gs} {E : Dn -> Option BZ} {H : Hp} {O : List Ax}
theorem Au.qR{x y:Dn}{t e:Gs}{d:TypeDesc}{len size bytes:Nat}{z:BZ}{k:Lr}{i:Int}{cs:Array BZ}(ht:P.underlying t=Ac (.array len e))(g:P.underlying e=Ac d)(f:DM d=Bp)(n:TI P e size bytes z)(l:E x=Ac (.agg cs))(m:E y=Ac (.int k i))(h:0<=i/\i<len):
  Au P (.index t x y) T E H O (.agg (cs.extract (i.toNat*size) (i.toNat*size+size))):= .Ao λp w o j _ a _=>by
 simp[Kt,j,a x _ l,a y _ m,Instr.index,asIntOf,AX ht,h,n.sizeOf,part,Cg g,f]
end
end Go.GK
namespace Go.GK
open Go.RowKit Go.Deep
def Hp.of(W:IW):Hp:= {at_:=λb=>W.heap[b]?,os:=W.os,output:=W.output,tape:=W.tape}
theorem Ahe(W:IW):SH W (Hp.of W) []:=
 ⟨λ_ _ h=>h,rfl,rfl,rfl,λi r h=>by grind,λi r b h=>by grind,λi j r a b h=>by simp⟩
theorem SH.below{W w':IW}{O:List Ax}(h:SH w' (Hp.of W) O):Below W.heap.size W w':=by
 have a:∀k,k<W.heap.size->w'.heap[k]?=W.heap[k]?:=λk b=>by have:=h.MW k W.heap[k] (by simp[Hp.of]);grind
 refine⟨h.os,h.tape,h.output,?_,a⟩;grind
section
variable {H : Type} {enc : Gs × BZ -> H} {P : GQ} {w : IW} {base : Nat} {spare : Nat -> Bool} {held : Bool}
theorem Ajn{a:Addr}{u:BZ}(h:w.cell? a=Ac u):DV (Hp.of w) (.pointer (Ac a)) u:=by
 unfold IW.cell? at h;cases b:w.heap[a.block]? with
 |none=>grind
 |some o=>
  cases o with
  |cells c t e=>
   simp only[b]at h;cases d:a.spot with
   |none=>simp[d]at h;exact⟨a,c,t,e,rfl,d,b,h⟩
   |some x=>grind
  |_=>grind
theorem Ll{α:Type}{Q:Nat->α->Prop} :∀n:Nat,(∀i,i<n->∃a,Q i a)->∃l:List α,l.length=n/\∀i a,l[i]?=Ac a->Q i a
 |0,_=>⟨[],rfl,λi a h=>by grind⟩
 |n+1,h=>by obtain⟨l,d,f⟩:=Ll n λi j=>h i (by omega);obtain⟨a,g⟩:=h n (by omega);refine⟨l++[a],by grind,λi b c=>?_⟩;grind
end
end Go.GK
namespace Go.GK
structure jK(P:GQ)(s i off ft:Nat):Prop where
 ex:∃fs f,P.underlying s=Ac (.struct fs)/\fs[i]?=Ac f/\f.offset=off/\f.type=ft/\∃inf,P.info? ft=Ac inf/\inf.size≠0
def iG(P:GQ)(s i:Nat):Option (Nat×Nat×Nat):=
 match P.underlying s with
 |some (.struct fs)=>match fs[i]? with
  |some f=>match P.info? f.type with
   |some a=>Ac (f.offset,f.type,a.size)
   |none=>C7
  |none=>C7
 |_=>C7
theorem jK.of{P:GQ}{s i off b k:Nat}(h:iG P s i=Ac (off,b,k+1)):jK P s i off b:=by
 unfold iG at h;split at h
 ·rename_i d l;split at h
  ·rename_i f g;split at h;· rename_i a j;simp only[Aem,Aep]at h;obtain⟨e,c,m⟩:=h;exact⟨d,f,l,g,e,c,a,by rw[<-c];exact j,by omega⟩
   grind
  grind
 grind
section
variable {P : GQ} {T : Gs} {E : Dn -> Option BZ} {H : Hp} {O : List Ax} {x y : Dn}
section
variable{s i off:Nat}
theorem K8{w:IW}{g:Nat}{a:Addr}(j:jK P s i off g):(Instr.fieldAt s (.pointer (Ac a)) i).run P w= .ok (.pointer (Ac (a.add off))) w:=by
 obtain⟨o,f,m,c,l,n,e,k,h⟩:=j.ex;subst l n;have d:(rU f.type).run P w= .ok e.size w:=by simp[rU,typeInfo,k]
 simp_all[Instr.fieldAt,nI,fieldPlace,AX]
theorem Ago{d B o o':Nat}(f:jK P s i off d)(h:E x=Ac (ptr B o))(c:o+off=o'):Au P (.fieldAddr s x i) T E H O (ptr B o'):= .Ao λj w k g _ e _=>by subst c;simp only[ptr]at*;have:=K8 (w:=w) (a:=⟨B,o,C7⟩) f;simp_all[Kt,xz]
theorem Aha{t:Gs}{s:ByteArray}{k:Lr}{i:Int}{b:UInt8}(ht:P.underlying t=Ac .string)(g:E x=Ac (.string s))(h:E y=Ac (.int k i))(h0:0<=i)(e:s[i.toNat]?=Ac b):Au P (.index t x y) T E H O (.int .u8 (b.toNat:Nat)):= .Ao λj w l f _ d _=>by simp[Kt,f,d x _ g,d y _ h,Instr.index,asIntOf,AX ht,h0,e]
end
end
def OW(P:GQ):List Field->List Lr->Nat->Bool
 |f::fs,k::b,j=>f.name != "_" &&f.offset==j&&(match P.underlying f.type with|some (.int a)=>a==k|_=>Aj)&&OW P fs b (j+1)
 | [],[],_=>Bp
 |_,_,_=>Aj
def Ss(P:GQ)(t:Gs)(a:List Lr):Bool:=
 match P.underlying t with
 |some (.struct fs)=>OW P fs.toList a 0&& !P.stoodInHeld t&& !P.eqGuardType P.depth t
 |_=>Aj
def C4(a:List Lr)(aS:List Int):List BZ:=List.zipWith BZ.int a aS
theorem Fl{P:GQ}{d:Nat}(w:IW):∀(fs:List Field) (g:List Lr) (aS bs:List Int) (h i:List BZ),OW P fs g h.length=Bp->aS.length=g.length->bs.length=g.length->h.length=i.length->
  (Op.eqFields (d+1) (h++C4 g aS).toArray (i++C4 g bs).toArray fs).run P w= .ok (Di (aS=bs)) w
 | [],g,aS,bs,h,i,m,j,l,p=>by
  cases g with
  |nil=>simp at j l;subst j l;simp[Op.eqFields]
  |cons=>simp[OW]at m
 |f::fs,g,aS,bs,h,i,m,j,l,p=>by
  cases g with
  |nil=>simp[OW]at m
  |cons k g=>
   cases aS with
   |nil=>simp at j
   |cons a aS=>
    cases bs with
    |nil=>simp at l
    |cons b bs=>
     simp only[OW,AT,bne_iff_ne,ne_eq,beq_iff_eq]at m;obtain⟨⟨⟨u,s⟩,o⟩,v⟩:=m;have n:P.underlying f.type=Ac (.int k):=by
      split at o;· rename_i A n;rw[n];simp at o;rw[o]
      ·cases o
     have t:=Fl (P:=P) (d:=d) w fs g aS bs (h++[.int k a]) (i++[.int k b]) (by simpa using v) (by simpa using j) (by simpa using l) (by simp[p]);have q:h++C4 (k::g) (a::aS)=(h++[.int k a])++C4 g aS:=by simp[C4]
     have r:i++C4 (k::g) (b::bs)=(i++[.int k b])++C4 g bs:=by simp[C4]
     rw[<-q,<-r]at t;have x:(part f.type (h++C4 (k::g) (a::aS)).toArray f.offset).run P w= .ok (.int k a) w:=by simp[part,Cg n,DM,s,q]
     have y:(part f.type (i++C4 (k::g) (b::bs)).toArray f.offset).run P w= .ok (.int k b) w:=by simp[part,Cg n,DM,s,r,p]
     have z:(lE (d+1) f.type (.int k a) (.int k b)).run P w= .ok (a==b) w:=by simp[lE,AX n]
     simp only[Op.eqFields,u,not_false_eq_true,ne_eq,if_true,oJ,x,y,z,nw];by_cases e:a=b;· subst e;simp only[beq_self_eq_true,Alj,Aeh,if_false,t,Akz,true_and]
     ·simp[e]
section
variable {P : GQ} {T : Gs} {E : Dn -> Option BZ} {H : Hp} {O : List Ax} {x y : Dn} {Tx Ty : Gs} {ks : List Lr} {xs ys : List Int}
theorem Mu{d:Nat}(b:Ss P Tx ks=Bp)(w:IW)(h1:xs.length=ks.length)(h2:ys.length=ks.length):(lE (d+1+1) Tx (.agg (C4 ks xs).toArray) (.agg (C4 ks ys).toArray)).run P w= .ok (Di (xs=ys)) w/\P.eqGuardType P.depth Tx=Aj:=by
 unfold Ss at b;split at b
 ·rename_i e f;simp only[AT,Aea]at b;have c:P.fieldsOf Tx=e:=by grind[GQ.fieldsOf]
  refine⟨?_,b.2⟩;rw[run_equalIn_agg w (d+1) Tx _ _ (by grind) b.1.2,c];have:=Fl (P:=P) (d:=d) w e.toList ks xs ys [] [] b.1.1 h1 h2 rf;grind
 grind
theorem Akh(j:Ss P Tx ks=Bp)(k:E x=Ac (.agg (C4 ks xs).toArray))(l:E y=Ac (.agg (C4 ks ys).toArray))(h1:xs.length=ks.length)(h2:ys.length=ks.length):Au P (.binOp .eql Tx x y Ty) T E H O (.bool (Di (xs=ys))):= .Ao λa w o i _ f _=>by have h:=Mu (d:=9998) j w h1 h2;have g:=run_eqGuard_agg w .eql Tx x y (C4 ks xs).toArray (C4 ks ys).toArray h.2;simp_all[C4,Kt,run_eql_struct,oJ,nw,Sem.run_pure]
theorem Akn(j:Ss P Tx ks=Bp)(k:E x=Ac (.agg (C4 ks xs).toArray))(l:E y=Ac (.agg (C4 ks ys).toArray))(h1:xs.length=ks.length)(h2:ys.length=ks.length):Au P (.binOp .neq Tx x y Ty) T E H O (.bool (!decide (xs=ys))):= .Ao λa w o i _ f _=>by have h:=Mu (d:=9998) j w h1 h2;have g:=run_eqGuard_agg w .neq Tx x y (C4 ks xs).toArray (C4 ks ys).toArray h.2;simp_all[C4,Kt,run_neq_struct,oJ,nw,Sem.run_pure]
end
section
variable {P : GQ} {T : Gs} {E : Dn -> Option BZ} {H : Hp} {O : List Ax}
def sb(s:ByteArray)(i:Nat):Nat:=(s.data.getD i 0).toNat
end
section
variable{l:List K_}{p:Nat->Bool}
def HG(acc:List Nat):List Edge->Nat
 | []=>0
 |e::es=>(if qo .any e then 2^e.on|||acc.getD e.on 0 else 0)|||HG acc es
def Ns:List Nat->List K_->List Nat
 |acc,[]=>acc
 |acc,o::os=>Ns (acc++[HG acc o.after.toList]) os
def U5(l:List K_)(i:Nat):Nat:=(Ns [] l).getD i 0
def HS(l:List K_)(p:Nat->Bool):Prop:= ∀(j:Nat) (o:K_),l[j]?=Ac o->p j=Bp->∀e∈o.after,qo .any e=Bp->p e.on=Bp
theorem Iy{acc:List Nat}{j:Nat} :∀ {es:List Edge},(HG acc es).testBit j=Bp->∃e∈es,qo .any e=Bp/\(j=e.on\/(acc.getD e.on 0).testBit j=Bp)
 | [],h=>by grind[HG]
 |e::es,h=>by
  simp only[HG,Nat.testBit_or,Adx]at h;rcases h with h|h
  ·grind
  ·obtain⟨c,d,f⟩:=Iy h;grind
theorem Pm{l:List K_}{p:Nat->Bool}(A:HS l p):∀(os:List K_) (acc:List Nat) (pre:List K_),l=pre++os->acc.length=pre.length->
  (∀i,i<acc.length->∀o,l[i]?=Ac o->(∀e∈o.after,qo .any e=Bp->p e.on=Bp)->∀j,(acc.getD i 0).testBit j=Bp->p j=Bp)->
  GW pre.length os=Bp->
  ∀i,i<l.length->∀o,l[i]?=Ac o->(∀e∈o.after,qo .any e=Bp->p e.on=Bp)->∀j,((Ns acc os).getD i 0).testBit j=Bp->p j=Bp
 | [],acc,pre,q,c,h,_,i,t,o,D,k,j,a=>by subst q;simp at t;exact h i (by omega) o D k j a
 |o::os,acc,pre,q,c,h,v,i,t,E,b,k,j,a=>by
  simp only[GW,AT]at v;refine Pm A os _ (pre++[o]) (by grind) (by grind) ?_ (by grind) i t E b k j a;intro i w s b k j a;by_cases e:i<acc.length;· rw[Aae,Pe e,<-Aae]at a;grind
  ·have B:i=acc.length:=by grind
   subst B;rw[Aae,Aab (Aac _)]at a;simp only[Aim,Alm,Acv]at a;obtain⟨e,C,m,a⟩:=Iy a;have y:s=o:=by rw[q,c,Aab (Aac _)]at b;simpa using b.symm
   rw[y]at k;have n:e∈o.after:=by simpa using C
   have r:=k e n m;rcases a with rfl|a;· exact r
   ·have x:e.on<acc.length:=by
     have:=(Aio.1 v.1) e n;simp[m]at this;omega
    have g:∃u,l[e.on]?=Ac u:=by
     have:e.on<l.length:=by rw[q];simp;omega
     exact⟨l[e.on],by simp[this]⟩
    obtain⟨u,g⟩:=g;exact h e.on x u g (A e.on u g r) j a
theorem Tt(d:GW 0 l=Bp)(f:HS l p){i:Nat}{o:K_}(c:l[i]?=Ac o)(g:∀e∈o.after,qo .any e=Bp->p e.on=Bp):∀j,(U5 l i).testBit j=Bp->p j=Bp:=
 Pm f l [] [] rfl rfl (λi h=>by simp) d i ((No.1 c).1) o c g
def I'(p:Nat->Bool)(i:Nat):Nat->Bool:=λj=>if j=i then Bp else p j
end
section
variable {P : GQ} {Q : Exit -> Act -> IW -> Prop} {l : List K_}
section
variable{J:(Nat->Bool)->Act->IW->Prop}
theorem jA(B:GW 0 l=Bp)
  (step:∀p a w i o,l[i]?=Ac o->p i=Aj->HS l p->(∀j,(U5 l i).testBit j=Bp->p j=Bp)->(∀j I,l[j]?=Ac I->p j=Bp->∀m,(U5 l j).testBit m=Bp->p m=Bp)->J p a w->
   if fy o (yielded l.toArray a.tmps)then o.wp P a w (J (I' p i)) Q else J (I' p i) (a.put o.dst undef) w)
  (K:∀p a w,(∀i,i<l.length->p i=Bp)->J p a w->Q .normal a w):
  ∀(f:Nat) (b:Array Bool) (a:Act) (w:IW),b.size=l.length->HS l (λi=>b.getD i Aj)->AD (λi=>b.getD i Aj) l.length=f->
   J (λi=>b.getD i Aj) a w->wpAny P .any l.toArray Q f b a w:=by
 have D:=Nq B;have g:∀(b:Array Bool),b.size=l.length->Alw .any l.toArray b=[]->∀i,i<l.length->b.getD i Aj=Bp:=by
  intro b n R i;induction i using Nat.strongRecOn with
  |_ i ih=>
   intro N;cases H:b.getD i Aj with
   |true=>rfl
   |false=>
    have k:i∈Alw .any l.toArray b:=mem_ready.2 ⟨getD_in (by omega) H,l[i],by simp,λe U B=>by grind⟩;grind
 intro f;induction f with
 |zero=>
  intro b a w n _ h T;have A:=S6 h;have R:Alw .any l.toArray b=[]:=by
   cases W:Alw .any l.toArray b with
   |nil=>rfl
   |cons i rs=>
    have k:i∈Alw .any l.toArray b:=by rw[W];simp
    obtain⟨G,oi,z,_⟩:=mem_ready.1 k;grind
  exact⟨R,K _ a w A T⟩
 |succ f ih=>
  intro b a w n r h T;refine⟨λR=>K _ a w (g b n R) T,λi N=>?_⟩;obtain⟨G,o,z,t⟩:=mem_ready.1 N;have x:l[i]?=Ac o:=by simpa using z
  have y:i<l.length:=(No.1 x).1;have C:=getD_both G;have S:(b.setIfInBounds i Bp).size=l.length:=by simp[n]
  have M:(b.setIfInBounds i Bp).getD i Aj=Bp:=by simp[n,y]
  have E:∀j,j≠i->(b.setIfInBounds i Bp).getD j Aj=b.getD j Aj:=λj F=>getD_set_ne Aj (Ne.symm F);have L:HS l (λZ=>(b.setIfInBounds i Bp).getD Z Aj):=by
   intro j I F H e U B;have H:(b.setIfInBounds i Bp).getD j Aj=Bp:=H;by_cases O:j=i;· subst O;have:I=o:=Abs (F.symm.trans x);subst this;exact getD_set_true (t e U B)
   ·rw[E j O]at H;exact getD_set_true (r j I F H e U B)
  have s:AD (λj=>(b.setIfInBounds i Bp).getD j Aj) l.length=f:=by have:=WE (p:=λj=>b.getD j Aj) (q:=λj=>(b.setIfInBounds i Bp).getD j Aj) y C M E;omega
  have X:I' (λj=>b.getD j Aj) i=λj=>(b.setIfInBounds i Bp).getD j Aj:=by
   funext j;unfold I';by_cases e:j=i;· subst e;rw[if_pos rfl];exact M.symm
   ·rw[if_neg e];exact(E j e).symm
  have u:=step (λj=>b.getD j Aj) a w i o x C r (Tt B r x t) (λj I F hp=>Tt B r F (r j I F hp)) T;rw[X]at u;refine wpOp_mono (λa' w' V=>ih _ a' w' S L s V) ?_;unfold wpOp;simp only[z];split;· rename_i Y;rw[if_pos Y]at u;exact .inl u
  ·rename_i Y;rw[if_neg Y]at u;exact u
theorem L6{id:Nat}(q:P.follows .mixedOrders=Bp)(n:GW 0 l=Bp)
  (step:∀p a w i o,l[i]?=Ac o->p i=Aj->HS l p->(∀j,(U5 l i).testBit j=Bp->p j=Bp)->(∀j t,l[j]?=Ac t->p j=Bp->∀m,(U5 l j).testBit m=Bp->p m=Bp)->J p a w->
   if fy o (yielded l.toArray a.tmps)then o.wp P a w (J (I' p i)) Q else J (I' p i) (a.put o.dst undef) w)
  (e:∀p a w,(∀i,i<l.length->p i=Bp)->J p a w->Q .normal a w) {a:Act} {w:IW} (h:J (λ_=>Aj) a {w with drawn:=w.drawn+1}):
  (Code.region id l.toArray Bp).wp P Q a w:=by
 refine wp_region_any q ?_;have f:(λi=>(Alu l.length Aj).getD i Aj)=λ_=>Aj:=funext λi=>getD_replicate_false _ _;have:=jA n step e l.length (Alu l.length Aj) a {w with drawn:=w.drawn+1} (by simp) (λj o _ k=>by rw[f]at k;grind)
  (by
   have:∀m,AD (λ_=>Aj) m=m:=by
    intro m;induction m with
    |zero=>rfl
    |succ m s=>
     have r:AD (λ_=>Aj) (m+1)=AD (λ_=>Aj) m+1:=rfl;omega
   grind)
  (by grind);omega
end
end
section
variable{p q:Nat->Bool}
abbrev Rec:=Nat->BZ
def zW(ρ:Rec)(i:Nat)(v:BZ):Rec:=λj=>match Hj j i with
 |true=>v
 |false=>ρ j
def B_(l:List Nat)(r:Nat):Bool:=l.any (Hj r)
theorem AR{l:List Nat}{r:Nat} :B_ l r=Bp↔r∈l:=by simp[B_]
theorem Rb(ρ:Rec)(i:Nat)(v:BZ):zW ρ i v i=v:=by simp[zW]
def word(p:Nat->Bool)(i:Nat):BitVec 64:=(BitVec.ofBoolListLE ((a_ 64).map λj=>p (64*i+j))).cast (by simp)
theorem Jb(p:Nat->Bool)(i j:Nat):(word p i).getLsbD j=(Di (j<64)&&p (64*i+j)):=by grind[word]
def Pj(p:Nat->Bool):Array BZ:= #[K3 (word p 0),K3 (word p 1),K3 (word p 2),K3 (word p 3)]
def bs(p:Nat->Bool):BZ:= .agg (Pj p)
theorem W0(p:Nat->Bool)(i:Nat)(h:i<4):(Pj p)[i]?=Ac (K3 (word p i)):=by
 match i,h with
 |0,_=>rfl
 |1,_=>rfl
 |2,_=>rfl
 |3,_=>rfl
theorem YD{p q:Nat->Bool}(h:∀x,x<256->p x=q x):Pj p=Pj q:=by
 have e:∀i,i<4->word p i=word q i:=λi a=>by apply Alp;grind[Jb]
 grind[Pj]
theorem fx{a b:BitVec 64}(h:K3 a=K3 b):a=b:=by simp only[K3,BZ.int.injEq,true_and]at h;grind[BitVec.eq_of_toNat_eq]
theorem jv(h:Pj p=Pj q):∀x,x<256->p x=q x:=by intro x e;have b:=W0 p (x/64) (by omega);rw[h,W0 q (x/64) (by omega)]at b;have c:=fx (Abs b);have a:=Jb p (x/64) (x %64);grind[Jb]
theorem YA:bs p=bs q↔∀x,x<256->p x=q x:=
 ⟨λh=>jv (by grind[bs]),λh=>by grind[bs,YD]⟩
theorem ju(p:Nat->Bool):∀u∈Pj p,u.oneCell'=Bp:=by intro u a;simp[Pj]at a;rcases a with rfl|rfl|rfl|rfl<;>rfl
attribute [irreducible] word
end
section
variable {P : GQ}
section
variable{e:Gs}{k:Lr}
theorem F_{d:Nat}{e:Gs}{k:Lr}(c:P.underlying e=Ac (.int k))(h1:P.cellsOf e=1)(w:IW)(xs ys:List Int):∀(is:List Nat),(∀i∈is,i<xs.length/\i<ys.length)->
  (Op.eqItems (d+1) e (P.cellsOf e) (xs.map (BZ.int k)).toArray (ys.map (BZ.int k)).toArray is).run P w= .ok (is.all λi=>xs[i]?==ys[i]?) w
 | [],_=>by rfl
 |i::is,h=>by
  have b:=h i (by simp);have l:=F_ (d:=d) c h1 w xs ys is (λj g=>h j (by grind));have m:(part e (xs.map (BZ.int k)).toArray (i*P.cellsOf e)).run P w= .ok (.int k xs[i]) w:=by simp[part,Cg c,DM,h1,b.1]
  have n:(part e (ys.map (BZ.int k)).toArray (i*P.cellsOf e)).run P w= .ok (.int k ys[i]) w:=by simp[part,Cg c,DM,h1,b.2]
  have o:(lE (d+1) e (.int k xs[i]) (.int k ys[i])).run P w= .ok (xs[i]==ys[i]) w:=by simp[lE,AX c]
  simp only[Op.eqItems,oJ,m,n,o,nw];by_cases f:xs[i]=ys[i];all_goals simp_all
theorem Om{t:Gs}{n:Nat}{bytes:Nat}{z:BZ}(ht:P.underlying t=Ac (.array n e))(f:P.underlying e=Ac (.int k))(m:TI P e 1 bytes z)(w:IW)(xs ys:List Int)(o:xs.length=n)(p:ys.length=n):
  (rS t (.agg (xs.map (BZ.int k)).toArray) (.agg (ys.map (BZ.int k)).toArray)).run P w= .ok (Di (xs=ys)) w:=by
 obtain⟨i,b,l,_⟩:=m.ex;have c:P.cellsOf e=1:=by grind[GQ.cellsOf]
 have key:∀d,(lE (d+1+1) t (.agg (xs.map (BZ.int k)).toArray) (.agg (ys.map (BZ.int k)).toArray)).run P w= .ok (Di (xs=ys)) w:=λd=>by
  rw[run_equalIn_array w (d+1) _ _ ht b,F_ f c w xs ys _ (λi b=>by grind)];congr 1;rw[Alb];simp only[IT,Abg,beq_iff_eq,decide_eq_true_iff];constructor
  ·intro h;apply Afz;grind
  grind
 grind[rS,Alr]
end
end
section
variable {P : GQ} {T : Gs} {E : Dn -> Option BZ} {H : Hp} {O : List Ax} {x y : Dn} {Tx Ty e : Gs} {k : Lr} {n bytes : Nat} {z : BZ}
section
variable{p q:Nat->Bool}
theorem Aiy{xs ys:List Int}(j:P.eqGuardType P.depth Tx=Aj)(ht:P.underlying Tx=Ac (.array n e))(i:P.underlying e=Ac (.int k))(q:TI P e 1 bytes z)(m:E x=Ac (.agg (xs.map (BZ.int k)).toArray))(p:E y=Ac (.agg (ys.map (BZ.int k)).toArray))(h1:xs.length=n)(h2:ys.length=n):
  Au P (.binOp .eql Tx x y Ty) T E H O (.bool (Di (xs=ys))):= .Ao λa w o l _ c _=>by
 have f:=Om ht i q w xs ys h1 h2;have g:=run_eqGuard_agg w .eql Tx x y (xs.map (BZ.int k)).toArray (ys.map (BZ.int k)).toArray j;simp_all[binOp,bool,decide,pure,rS,Kt]
theorem Aiw{xs ys:List Int}(j:P.eqGuardType P.depth Tx=Aj)(ht:P.underlying Tx=Ac (.array n e))(i:P.underlying e=Ac (.int k))(q:TI P e 1 bytes z)(m:E x=Ac (.agg (xs.map (BZ.int k)).toArray))(p:E y=Ac (.agg (ys.map (BZ.int k)).toArray))(h1:xs.length=n)(h2:ys.length=n):
  Au P (.binOp .neq Tx x y Ty) T E H O (.bool (!decide (xs=ys))):= .Ao λa w o l _ c _=>by
 have f:=Om ht i q w xs ys h1 h2;have g:=run_eqGuard_agg w .neq Tx x y (xs.map (BZ.int k)).toArray (ys.map (BZ.int k)).toArray j;simp_all[binOp,bool,decide,pure,rS,Kt]
def fh(p q:Nat->Bool):Bool:=(a_ 256).all λx=>p x==q x
theorem iM:fh p q=Bp↔∀x,x<256->p x=q x:=by simp[fh]
theorem rl:fh p q=Bp↔bs p=bs q:=by rw[iM,YA]
def Ln(p:Nat->Bool):List Int:=[((word p 0).toNat:Int),((word p 1).toNat:Int),((word p 2).toNat:Int),((word p 3).toNat:Int)]
theorem Tn{p q:Nat->Bool} :Di (Ln p=Ln q)=fh p q:=by rw[Alb,decide_eq_true_iff,rl];have:∀p,bs p= .agg ((Ln p).map (BZ.int .u64)).toArray:=λp=>rfl;grind[Ln]
theorem Aik(b:P.eqGuardType P.depth Tx=Aj)(ht:P.underlying Tx=Ac (.array 4 e))(a:P.underlying e=Ac (.int .u64))(f:TI P e 1 bytes z)(c:E x=Ac (.agg (Pj p)))(d:E y=Ac (.agg (Pj q))):
  Au P (.binOp .eql Tx x y Ty) T E H O (.bool (fh p q)):=by
 have:=Aiy (P:=P) (T:=T) (H:=H) (O:=O) (Ty:=Ty) (xs:=Ln p) (ys:=Ln q) b ht a f c d rfl rfl;grind[Tn]
theorem Aig(b:P.eqGuardType P.depth Tx=Aj)(ht:P.underlying Tx=Ac (.array 4 e))(a:P.underlying e=Ac (.int .u64))(f:TI P e 1 bytes z)(c:E x=Ac (.agg (Pj p)))(d:E y=Ac (.agg (Pj q))):
  Au P (.binOp .neq Tx x y Ty) T E H O (.bool (!fh p q)):=by
 have:=Aiw (P:=P) (T:=T) (H:=H) (O:=O) (Ty:=Ty) (xs:=Ln p) (ys:=Ln q) b ht a f c d rfl rfl;grind[Tn]
end
end
def idx{α:Type}(l:List α)(i:Int):Option α:=if 0<=i then l[i.toNat]? else C7
def Ag{α:Type}(p:Prop) [Decidable p](k:Option α):Option α:=if p then k else C7
def Ab{α β:Type}(x:Option α)(k:α->Option β):Option β:=match x with
 |some a=>k a
 |none=>C7
def Ad{X R:Type} :Nat->(X->(X->Option R)->Option R)->X->Option R
 |0,_,_=>C7
 |n+1,b,x=>b x (Ad n b)
section
variable {α β X R : Type}
section
variable{x:α}{l:List α}{i:Int}
theorem AF{p:Prop} [Decidable p]{k:Option α}{r:α}(h:Ag p k=Ac r):p/\k=Ac r:=by grind[Ag]
theorem Bi{x:Option α}{k:α->Option β}{r:β}(h:Ab x k=Ac r):∃a,x=Ac a/\k a=Ac r:=by
 cases x with
 |none=>cases h
 |some a=>exact⟨a,rfl,h⟩
theorem Uy{n:Nat}{b:X->(X->Option R)->Option R}{x:X}{r:R}(h:Ad n b x=Ac r):∃m,n=m+1/\b x (Ad m b)=Ac r:=by
 cases n with
 |zero=>cases h
 |succ m=>exact⟨m,rfl,h⟩
theorem Dh(h:idx l i=Ac x):(0<=i/\i<(l.length:Nat))/\l[i.toNat]?=Ac x:=by grind[idx]
theorem bK(h:idx l i=Ac x):0<=i/\i<(l.length:Nat):=(Dh h).1
end
end
structure Cd(α:Type)where
 sz:Nat
 BO:Hp->α->List BZ->Prop
 len:∀ {H a cs},BO H a cs->cs.length=sz
 mono:∀ {H H' a cs},H.le H'->BO H a cs->BO H' a cs
 one:∀ {H a cs},BO H a cs->∀u∈cs,u.oneCell'=Bp
def A2{α:Type}(c:Cd α)(H:Hp):List α->List BZ->Prop
 | [],xs=>xs=[]
 |a::l,xs=> ∃cs ys,xs=cs++ys/\c.BO H a cs/\A2 c H l ys
structure G8{α:Type}(c:Cd α)(H:Hp)(l:List α)(v:BZ):Prop where
 ex:∃xs,Sl H v c.sz l.length xs/\A2 c H l xs
 le:l.length<=9223372036854775807
def rQ:Cd Int where
 sz:=1
 BO _ n cs:=cs=[.int .i64 n]
 len h:=by grind
 mono _ h:=h
 one h:=by subst h;intro u hu;simp at hu;subst hu;rfl
def cU8:Cd Int where
 sz:=1
 BO _ n cs:=cs=[.int .u8 n]/\0<=n/\n<=255
 len h:=by grind
 mono _ h:=h
 one h:=by rw[h.1];intro u hu;simp at hu;subst hu;rfl
def cB:Cd Bool where
 sz:=1
 BO _ b cs:=cs=[.bool b]
 len h:=by grind
 mono _ h:=h
 one h:=by subst h;intro u hu;simp at hu;subst hu;rfl
abbrev Aq:=List UInt8
def sv(s:Aq):BZ:= .string ⟨⟨s⟩⟩
def cS:Cd Aq where
 sz:=1
 BO _ s cs:=cs=[sv s]
 len h:=by grind
 mono _ h:=h
 one h:=by subst h;intro u hu;simp at hu;subst hu;rfl
abbrev ze:=Nat->Bool
def cBs:Cd ze where
 sz:=4
 BO _ p cs:=cs=(Pj p).toList
 len h:=by subst h;rfl
 mono _ h:=h
 one h:=by grind[ju]
def cP{α β:Type}(c:Cd α)(d:Cd β):Cd (α×β)where
 sz:=c.sz+d.sz
 BO H a cs:= ∃c1 c2,cs=c1++c2/\c.BO H a.1 c1/\d.BO H a.2 c2
 len h:=by obtain⟨c1,c2,rfl,h1,h2⟩:=h;simp[c.len h1,d.len h2]
 mono hl h:=by obtain⟨c1,c2,rfl,h1,h2⟩:=h;exact⟨c1,c2,rfl,c.mono hl h1,d.mono hl h2⟩
 one h:=by
  obtain⟨c1,c2,rfl,h1,h2⟩:=h;intro u hu;rcases AS.1 hu with hu|hu;· exact c.one h1 u hu
  ·exact d.one h2 u hu
section
variable {α : Type} {c : Cd α} {H H' : Hp}
section
variable{l:List α}{v:BZ}{xs:List BZ}{x:α}
theorem A2.len:∀ {l:List α} {xs:List BZ},A2 c H l xs->xs.length=l.length*c.sz
 | [],xs,h=>by grind[A2]
 |a::l,xs,⟨f,g,e,b,d⟩=>by subst e;simp[c.len b,A2.len d,Adm,Nat.add_comm]
theorem A2.mono(a:H.le H'):∀ {l:List α} {xs:List BZ},A2 c H l xs->A2 c H' l xs
 | [],_,h=>h
 |_::_,_,⟨b,g,e,d,f⟩=>⟨b,g,e,c.mono a d,A2.mono a f⟩
theorem A2.one:∀ {l:List α} {xs:List BZ},A2 c H l xs->∀u∈xs,u.oneCell'=Bp
 | [],xs,h,u,a=>by grind[A2]
 |_::_,_,⟨f,g,e,b,d⟩,u,a=>by
  subst e;rcases AS.1 a with a|a;· exact c.one b u a
  ·exact A2.one d u a
theorem A2.app:∀ {l d:List α} {xs a:List BZ},A2 c H l xs->A2 c H d a->A2 c H (l++d) (xs++a)
 | [],_,xs,_,h,b=>by grind[A2]
 |_::_,_,_,_,⟨f,j,e,g,i⟩,b=>by subst e;exact⟨f,_,by simp,g,A2.app i b⟩
theorem A2.get:∀ {l:List α} {xs:List BZ} {i:Nat} {x:α},A2 c H l xs->l[i]?=Ac x->∃cs,c.BO H x cs/\(∀j u,cs[j]?=Ac u->xs[i*c.sz+j]?=Ac u)/\cs=(xs.drop (i*c.sz)).take c.sz
 | [],_,_,_,_,h=>by grind
 |a::l,_,0,x,⟨cs,p,e,b,g⟩,h=>by
  simp at h;subst h;subst e;refine⟨cs,b,λj u d=>?_,?_⟩;· grind
  ·rw[Aeo,Afa,Acf (by rw[c.len b];omega),Abl (by rw[c.len b];omega)]
 |a::l,_,i+1,x,⟨cs,p,e,b,g⟩,h=>by
  subst e;obtain⟨f,m,n,o⟩:=A2.get g (by trivial);have e:(i+1)*c.sz=cs.length+i*c.sz:=by rw[c.len b,Adm];omega
  refine⟨f,m,λj u d=>?_,?_⟩;· rw[e,Adt,Aab (by omega),Acr];exact n j u d
  simp_all
theorem A2.set:∀ {l:List α} {xs:List BZ} {i:Nat} {y:α} {vs:List BZ},A2 c H l xs->i<l.length->c.BO H y vs->A2 c H (l.set i y) (Cy xs (i*c.sz) vs)
 | [],_,_,_,_,_,h,_=>by grind
 |a::l,_,0,y,vs,⟨b,j,e,d,g⟩,_,f=>by subst e;refine⟨vs,j,?_,f,g⟩;unfold Cy;rw[Aeo,Aec,Ach,Abm,Acw,Aax (by rw[c.len d,c.len f];omega),c.len d,c.len f];simp
 |a::l,_,i+1,y,vs,⟨b,j,e,d,g⟩,k,f=>by
  refine⟨b,Cy j (i*c.sz) vs,?_,d,A2.set g (by grind) f⟩;have e:(i+1)*c.sz=b.length+i*c.sz:=by rw[c.len d,Adm];omega
  unfold Cy;simp_all[Adu,Abl,Acr,Adt,Acw,Aax]
theorem fJ(xs:List BZ)(k off s:Nat)(cs vs:List BZ)(f:cs=(xs.drop k).take s)(b:cs.length=s)(l:off+vs.length<=s):Cy xs (k+off) vs=Cy xs k (Cy cs off vs):=by
 subst f
 have j:(Cy ((xs.drop k).take s) off vs).length=s:=by grind[II]
 unfold Cy at*
 have i:xs.drop (k+off+vs.length)=((xs.drop k).take s).drop (off+vs.length)++xs.drop (k+s):=by
  have:xs.drop (k+off+vs.length)=(xs.drop k).drop (off+vs.length):=by rw[Adf];congr 1;omega
  rw[this];have e:xs.drop k=(xs.drop k).take s++xs.drop (k+s):=by have:=(Ace s (xs.drop k)).symm;rw[Adf]at this;exact this
  conv=>lhs;rw[e]
  rw[Acw,b];have:off+vs.length-s=0:=by omega
  rw[this,Afa]
 grind
theorem A2.part{i off:Nat}{y:α}{cs vs:List BZ}(h:A2 c H l xs)(f:l[i]?=Ac x)(b:cs=(xs.drop (i*c.sz)).take c.sz)(a:cs.length=c.sz)(e:off+vs.length<=c.sz)(g:c.BO H y (Cy cs off vs)):
  A2 c H (l.set i y) (Cy xs (i*c.sz+off) vs):=by
 rw[fJ xs _ off c.sz cs vs b a e];exact h.set (No.1 f).1 g
theorem A2.take:∀ {l:List α} {xs:List BZ} (m:Nat),A2 c H l xs->A2 c H (l.take m) (xs.take (m*c.sz))
 | [],xs,m,h=>by grind[A2]
 |a::l,xs,0,h=>by simp[A2]
 |a::l,_,m+1,⟨b,g,e,d,f⟩=>by subst e;refine⟨b,g.take (m*c.sz),?_,d,A2.take m f⟩;rw[show(m+1)*c.sz=b.length+m*c.sz by rw[c.len d,Adm];omega,Adu,Abl (by omega),Acr]
theorem Ahq{z:α}{zs:Array BZ}(j:c.BO H z zs.toList)(h0:0<c.sz):∀m,A2 c H (Uh m z) (madeCells zs (m*c.sz)).toList:=by
 have g:zs.size=c.sz:=by rw[<-c.len j];simp
 have key:∀m,(madeCells zs (m*c.sz)).toList=(Uh m zs.toList).flatten:=by
  intro m;apply Adj;· simp_all[madeCells]
  ·intro i k e;simp only[madeCells,Array.toList_map,Array.toList_range,List.getElem_map,List.getElem_range];have o:i<m*c.sz:=by simp_all
   have:∀m i (h:i<m*c.sz) (e:i<(Uh m zs.toList).flatten.length),(Uh m zs.toList).flatten[i]=zs[i %zs.size]! :=by
    intro m;induction m with
    |zero=>omega
    |succ m f=>
     intro i h e;simp only[List.replicate_succ,List.flatten_cons];by_cases b:i<zs.size;· grind[List.getElem_append_left,Nat.mod_eq_of_lt]
     ·rw[List.getElem_append_right (by simpa using b)];have l:i-zs.toList.length<m*c.sz:=by simp[g];rw[Adm]at h;omega
      rw[f _ l];have n:(i-zs.toList.length) %zs.size=i %zs.size:=by
       have:zs.size<=i:=by omega
       simp only[Ahc];conv=>rhs;rw[<-Nat.sub_add_cancel this,Nat.add_mod_right]
      rw[n]
   grind
 intro m;rw[key];induction m with
 |zero=>exact rfl
 |succ m f=>exact⟨zs.toList,(Uh m zs.toList).flatten,by simp[List.replicate_succ],j,f⟩
theorem G8.mono(a:H.le H')(h:G8 c H l v):G8 c H' l v:=by obtain⟨⟨f,b,d⟩,e⟩:=h;exact⟨⟨f,b.mono a,d.mono a⟩,e⟩
theorem G8.sl(h:G8 c H l v):TC v l.length:=by obtain⟨⟨e,a,b⟩,d⟩:=h;exact a.sl
theorem G8.one(h:G8 c H l v):v.oneCell'=Bp:=by rcases h.sl with⟨rfl,_⟩|⟨a,cap,rfl,_⟩<;>rfl
theorem G8.nil:G8 c H [] (.slice C7 0 0):=⟨⟨[],Sl.nil H _,rfl⟩,by simp⟩
theorem G8.get{i:Int}(h:G8 c H l v)(hi:idx l i=Ac x):∃cs,c.BO H x cs/\∀j u,cs[j]?=Ac u->DV H (AW v (i.toNat*c.sz+j)) u:=by obtain⟨⟨k,d,e⟩,g⟩:=h;obtain⟨cs,a,b,_⟩:=e.get (Dh hi).2;exact⟨cs,a,λj u f=>d.cells _ u (b j u f)⟩
theorem G8.of{n:Nat}(h:Sl H v c.sz n xs)(b:n=l.length)(d:A2 c H l xs)(a:l.length<=9223372036854775807):G8 c H l v:=by subst b;exact⟨⟨xs,h,d⟩,a⟩
end
end
section
variable{α:Type}
def cL(c:Cd α):Cd (List α)where
 sz:=1
 BO H l cs:= ∃v,cs=[v]/\G8 c H l v
 len h:=by grind
 mono hl h:=by obtain⟨v,e,h⟩:=h;exact⟨v,e,h.mono hl⟩
 one h:=by obtain⟨v,rfl,h⟩:=h;intro u hu;simp at hu;subst hu;exact h.one
def cA(n:Nat)(c:Cd α):Cd (List α)where
 sz:=n*c.sz
 BO H l cs:=l.length=n/\A2 c H l cs
 len h:=by rw[h.2.len,h.1]
 mono hl h:=⟨h.1,h.2.mono hl⟩
 one h:=h.2.one
end
section
variable {P : GQ} {T : Gs} {E : Dn -> Option BZ} {H : Hp} {O : List Ax} {x : Dn} {t : Gs} {d : TypeDesc}
theorem Ajd{p u:BZ}(ht:P.underlying t=Ac d)(i:DM d=Aj)(e:E x=Ac p)(h:DV H p u):Au P (.load t x) T E H O u:= .Ao λm w o k _ j l=>by obtain⟨a,f,g⟩:=h.cell l;simp_all[Kt,xN,nI,Dl]
theorem Aij{v:BZ}{k bytes:Nat}{z:BZ}{vs:List BZ}(ht:P.underlying t=Ac d)(m:DM d=Bp)(f:TI P t vs.length bytes z)(h0:vs.isEmpty=Aj)(g:E x=Ac (AW v k))(l:∀j u,vs[j]?=Ac u->DV H (AW v (k+j)) u):
  Au P (.load t x) T E H O (.agg vs.toArray):= .Ao λr w o p _ n q=>by
 obtain⟨a,h,i⟩:=sV.cells q (v:=v) (k:=k) (by grind) l;rw[h]at g;simp[Kt,p,n x _ g,xN,nI,Dm (w:=w) ht m f i]
end
section
variable {P : GQ} {Q : Exit -> Act -> IW -> Prop} {n : Nat} {L L' : List (Nat × BZ)} {H : Hp} {O : List Ax}
section
variable{w:IW}
def RR(a:List Nat)(k:Nat)(O:List Ax):List Ax:=a.filterMap (O[·]?)++O.drop k
def Ci:List Nat->Bool
 | []=>Bp
 |k::a=> !B_ a k&&Ci a
theorem La:∀ {d:List Nat},Ci d=Bp->∀(i j a:Nat),d[i]?=Ac a->d[j]?=Ac a->i=j
 | [],_,i,_,a,h,_=>by grind
 |k::d,e,i,j,a,b,c=>by
  simp only[Ci,AT,Aea]at e;have f:∀q,d[q]?=Ac k->False:=λq g=>by have:=AR.2 (Aai g);grind
  cases i with
  |zero=>
   grind
  |succ i=>
   cases j with
   |zero=>grind
   |succ j=>rw[La e.2 i j a (by grind) (by trivial)]
theorem SH.RR(a:List Nat)(k:Nat)(p:(a.all λq=>bg q k)=Bp)(u:Ci a=Bp)(A:k<=O.length)(h:SH w H O):SH w H (RR a k O):=by
 have m:∀q∈a,q<O.length:=λq b=>by have:=IT.1 p q b;simp at this;omega
 have g:∀q∈a,q<k:=λq b=>by simp_all
 have o:∀a:List Nat,(∀q∈a,q<O.length)->a.filterMap (O[·]?)=a.map (λq=>O.getD q .emp):=by
  intro a;induction a with
  |nil=>simp
  |cons q a v=>
   grind
 have t:=o a m;refine h.pick (λi=>if i<a.length then a.getD i 0 else k+(i-a.length)) (λi r l=>?_) (λi j f z e=>?_)
 ·grind[GK.RR]
 ·by_cases c:i<a.length<;>by_cases d:j<a.length;· grind[La]
  ·have:=g _ (AN c);grind
  ·rw[if_neg c,if_pos d]at e;have:=g _ (AN d);simp only[Aae,IS d,Acv]at e;omega
  grind
theorem SH.On(b:SH w H O){i size m:Nat}{v:BZ}{e:Gs}{xs:List BZ}(hi:O[i]?=Ac (.row v e size m xs)):m<=9223372036854775807:=by have h:=b.ok i _ hi;rcases h.2 with⟨rfl,rfl⟩|⟨g,cap,cur,rfl,_,_,c,a,_⟩;all_goals grind[maxLen]
end
end
abbrev DW(n:Int):Prop:= -9223372036854775808<=n/\n<=9223372036854775807
abbrev F8(n:Int):Prop:=0<=n/\n<=255
abbrev Ai:Nat:=1099511627776
section
variable {P : GQ} {T : Gs} {E : Dn -> Option BZ} {H : Hp} {O : List Ax} {x y : Dn}
section
variable{t:Gs}{b a s:Aq}{off:Nat}{i:Int}
theorem Au.nilCheck{b:Nat}(d:E x=Ac (ptr b off)):Au P (.nilCheck x) T E H O (ptr b off):= .Ao λa w o f _ e _=>by simp_all[ptr,Kt]
theorem Aii(ht:P.underlying t=Ac .string)(b:E x=Ac (sv s)):Au P (.call {callee:= .builtin .len,args:= #[x],argTypes:= #[t]}) T E H O (.int .i64 ((s.length:Nat):Int)):=by have:=Akm (P:=P) (T:=T) (H:=H) (O:=O) ht b;trivial
def Ez(s:Aq)(i:Int):Option Int:=if 0<=i then(s[i.toNat]?).map (λb=>(b.toNat:Int))else C7
theorem ij{x:Int}(h:Ez s i=Ac x):(0<=i/\i<(s.length:Nat))/\0<=x/\x<=255:=by
 unfold Ez at h;split at h;· cases a:s[i.toNat]? with
  |none=>grind
  |some b=>
   rw[a]at h;simp at h;have:=(No.1 a).1;have:=b.toNat_lt;omega
 grind
theorem Ajw{k:Lr}{z:Int}(ht:P.underlying t=Ac .string)(e:E x=Ac (sv s))(f:E y=Ac (.int k i))(h:Ez s i=Ac z):Au P (.index t x y) T E H O (.int .u8 z):=by
 unfold Ez at h;split at h;· rename_i c;cases a:s[i.toNat]? with
  |none=>grind
  |some b=>
   rw[a]at h;simp at h;subst h;exact Aha ht e f c (by show ByteArray.mk (Array.mk s) |>.data[i.toNat]?=Ac b;grind)
 grind
theorem Ahk{Ty:Gs}(ht:P.underlying t=Ac .string)(f:E x=Ac (sv a))(g:E y=Ac (sv b)):Au P (.binOp .eql t x y Ty) T E H O (.bool (Di (a=b))):= .Ao λi w o e _ d _=>by
 have h:(a==b)=Di (a=b):=by grind
 simp_all[sv,Kt,eqGuard,binOp,xh]
theorem Akd{Ty:Gs}(ht:P.underlying t=Ac .string)(f:E x=Ac (sv a))(g:E y=Ac (sv b)):Au P (.binOp .neq t x y Ty) T E H O (.bool (!decide (a=b))):= .Ao λi w o e _ d _=>by
 have h:(a==b)=Di (a=b):=by grind
 simp_all[sv,Kt,eqGuard,binOp,xh,bne]
theorem Ahj{Ty:Gs}(f:E x=Ac (sv a))(g:E y=Ac (sv b)):Au P (.binOp .lss t x y Ty) T E H O (.bool (rL a b)):= .Ao λh w o e _ d _=>by simp_all[sv,Kt,eqGuard,binOp,xh]
theorem Akk{Ty:Gs}(k:E x=Ac (sv a))(l:E y=Ac (sv b))(h:a.length+b.length<=Ai):Au P (.binOp .add t x y Ty) T E H O (sv (a++b)):= .Ao λm w o j _ d _=>by
 have g:¬(((ByteArray.mk (Array.mk a)).size+(ByteArray.mk (Array.mk b)).size:Nat):Int)>Lr.i64.max:=by have e:(ByteArray.mk (Array.mk a)).size=a.length:=rfl;have f:(ByteArray.mk (Array.mk b)).size=b.length:=rfl;simp[Lr.max,Lr.signed,Lr.bits,Ai]at*;omega
 have i:ByteArray.mk (Array.mk a)++ByteArray.mk (Array.mk b)=ByteArray.mk (Array.mk (a++b)):=by rfl
 simp_all[sv,Kt,eqGuard,binOp,xh]
theorem Aiz{d:TypeDesc}{B i bytes:Nat}{z:BZ}{cs:Array BZ}{l:Gs}{f:Nat×Nat}{vs:List BZ}(ht:P.underlying t=Ac d)(g:DM d=Bp)(c:TI P t vs.length bytes z)(k:E x=Ac (ptr B off))(hi:O[i]?=Ac (.Ah B (.cells cs l f)))
  (h:(cs.toList.drop off).take vs.length=vs):Au P (.load t x) T E H O (.agg vs.toArray):=
 Akp ht g c k hi λj u e=>by grind
end
end
section
variable {P : GQ} {Q : Exit -> Act -> IW -> Prop} {n : Nat} {L : List (Nat × BZ)} {H : Hp} {O : List Ax} {ops : Array K_} {rest : List K_} {T : Gs}
variable {α : Type} {c : Cd α}
theorem SH.ZY{w:IW}(b:SH w H O){i size m:Nat}{v:BZ}{e:Gs}{xs:List BZ}(hi:O[i]?=Ac (.row v e size m xs)):v.oneCell'=Bp:=by rcases(b.IM hi).1 with⟨rfl,_⟩|⟨a,cap,rfl,_⟩<;>rfl
theorem Aga{op:Op}{E:Dn->Option BZ}{R:BZ->Hp->List Ax->Prop}(r:Nat)(h:BM P op T E H O R)(s:∀v d b,R v d b->∃e size m xs,b[r]?=Ac (.row v e size m xs)):BM P op T E H O (λv d b=>R v d b/\v.oneCell'=Bp):=
 λa w o next Q i j k l p=>h a w o next Q i j k l λv u d b t f g=>by obtain⟨e,size,m,xs,q⟩:=s v d b f;exact p v u d b t ⟨f,g.ZY q⟩ g
end
section
variable{v:BZ}
def placesOf(P:GQ)(t:Gs):Option (List (Nat×Nat)):=
 match P.underlying t with
 |some (.struct fs)=>fs.toList.mapM λf=>(P.info? f.type).map λi=>(f.offset,i.size)
 |_=>C7
theorem run_places{P:GQ} :∀(l:List Field) (ps:List (Nat×Nat)),(l.mapM λf=>(P.info? f.type).map λi=>(f.offset,i.size))=Ac ps->
  ∀w,(l.mapM λf=>do pure (f.offset,<-rU f.type):Sem (List (Nat×Nat))).run P w= .ok ps w
 | [],ps,h,w=>by simp_all
 |f::l,ps,h,w=>by
  cases a:P.info? f.type with
  |none=>grind
  |some i=>
   cases b:(l.mapM λf=>(P.info? f.type).map λi=>(f.offset,i.size))with
   |none=>grind
   |some e=>
    simp[a,b]at h;have d:=run_places l e b w;simp_all[rU,typeInfo]
def Ws(place:Nat->Option (Nat×Nat))(cells:Array BZ):List (Nat×Array BZ)->Option (Array BZ)
 | []=>Ac cells
 |(i,v)::a=>
  match place i with
  |none=>C7
  |some (off,size)=>
   if v.size≠size||off+v.size>cells.size then C7
   else Ws place (v.zipIdx.foldl (λcs (c,j)=>cs.setIfInBounds (off+j) c) cells) a
theorem fill_eq(place:Nat->Option (Nat×Nat)):∀(vs:List (Nat×BZ)) (cells:Array BZ),nF place cells vs=Ws place cells (vs.map λp=>(p.1,p.2.cells))
 | [],_=>rfl
 |(i,v)::b,cells=>by
  simp only[nF,Aas,Ws];cases place i with
  |none=>rfl
  |some q=>
   simp only;split;· rfl
   ·exact fill_eq place b _
theorem rK(h:v.oneCell'=Bp):v.cells= #[v]:=by cases v<;>simp_all [BZ.cells,BZ.oneCell']
theorem rJ(h:v.oneCell'=Bp):v.cells.toList=[v]:=by rw[rK h]
abbrev VC(vs:List (Nat×BZ))(vcs:List (Nat×Array BZ)):Prop:=vs.map (λp=>(p.1,p.2.cells))=vcs
end
section
variable {P : GQ} {T : Gs} {E : Dn -> Option BZ} {H : Hp} {O : List Ax}
theorem Akj{t:Gs}{size bytes:Nat}{z:BZ}{zs cs:Array BZ}{ps:List (Nat×Dn)}{vs:List (Nat×BZ)}{places:List (Nat×Nat)}(a:placesOf P t=Ac places)(m:TI P t size bytes z)(e:z.cells=zs)
  {vcs:List (Nat×Array BZ)} (d:Zg E ps=Ac vs) (k:VC vs vcs) (c:Ws (places[·]?) zs vcs=Ac cs):Au P (.build t ps.toArray) T E H O (.agg cs):=by
 have i:nF (places[·]?) zs vs=Ac cs:=by grind[fill_eq]
 unfold placesOf at a;split at a;· rename_i g j;refine Au.build (places:=places.toArray) j m e (λw=>?_) d (by simp_all);have h:=run_places g.toList places a w;simp_all[List.mapM,pure,rU,Array.mapM_eq_mapM_toList,oJ]
 grind
end
def Ct(v:BZ)(k:Nat):BZ:=match v with
 | .agg cs=>cs.getD k undef
 | .tuple vs=>vs.getD k undef
 |_=>undef
section
variable {P : GQ} {T : Gs} {E : Dn -> Option BZ} {H : Hp} {O : List Ax} {ρ : Rec} {i : Nat}
theorem Ajq{t e:Gs}{len size bytes:Nat}{z:BZ}{zs cs:Array BZ}{ps:List (Nat×Dn)}{vs:List (Nat×BZ)}(r:Nat)(ht:P.underlying t=Ac (.slice e))(p:TI P e size bytes z)(n:z.cells=zs)
  (c:iT (len*size) 16777216=Bp) (h0:bg 0 (len*size)=Bp) (m:Zg E ps=Ac vs) (B:nF (λi=>Ac (i*size,size)) ((Array.range (len*size)).map (zs[· %zs.size]!)) vs=Ac cs) (f:cs.size=len*size) (hi:O[r]?=Ac .emp):
  BM P (.buildSlice t len ps.toArray) T E H O (λv q s=>q=H/\s=O.set r (.row (zW ρ i v i) e size len cs.toList)/\zW ρ i v i=v):= .Ao λa w o C _ A D=>by
 have u:(ps.toArray.map λ(i,x)=>(i,a.eval x)).toList=vs:=by simpa using HF A m
 have g:¬len*size>2^24:=by simp_all
 have j:¬len*size=0:=by simp at h0;omega
 refine⟨.slice (Ac ⟨w.heap.size,0,C7⟩) len len,w.alloc (.cells cs e),H,_,?_,Hp.le.refl H,⟨rf,by rw[Rb],by rw[Rb]⟩,D.set hi (IW.grownBy_alloc w _ _) ?_ (λb y=> .inr (by grind[Ax.has,BZ.ownBlock]))⟩;· simp only[Kt,C,Instr.buildSlice,oJ,AX ht,nw,p.sizeOf,if_neg g,if_neg j,p.zeroValue,n,Sem.run_pure,u,B];rfl
 ·refine⟨by trivial, .inr ⟨w.heap.size,len,cs,rfl,Abe _,heap_alloc_new w _,Aac _,?_,f,?_⟩⟩;· have G:len<=len*size:=Aes _ (Nat.pos_of_ne_zero λh=>by subst h;simp at j);simp only[maxLen];omega
  grind[ru]
end
section
variable {P : GQ} {w : IW} {H : Hp} {O : List Ax} {f : FuncId} {vs : List BZ}
theorem Rx{i:Nat}{r:Ax}(hi:O[i]?=Ac r):O.set i r=O:=by apply Afz;grind
end
section
variable {H : Hp} {O : List Ax}
theorem Aiu{w:IW}{i b:Nat}{r:Ax}{o:Obj}(hi:O[i]?=Ac r)(u:r.block=Ac b)(y:H.at_ b=C7)(C:∀w':IW,w'.heap[b]?=Ac o->r.ok w')(h:SH w (H.put b o) (O.eraseIdx i)):SH w H O:=by
 have q:(H.put b o).at_ b=Ac o:=by simp[Hp.put]
 have key:∀j s,O[j]?=Ac s->j≠i->∃k,(O.eraseIdx i)[k]?=Ac s/\k=(if j<i then j else j-1):=λj s a g=>by grind
 have l:∀j s c,O[j]?=Ac s->j≠i->s.has c->c≠b/\H.at_ c=C7:=λj s c a g d=>by obtain⟨k,m,_⟩:=key j s a g;have f:=h.Iz k s c m d;grind[Hp.put]
 refine⟨λc t d=>h.MW c t ?_,h.os,h.output,h.tape,λj s a=>?_,λj s c a d=>?_,λj k s x c a n d p=>?_⟩;· grind[Hp.put]
 ·by_cases g:j=i;· subst g;rw[hi]at a;cases a;exact C w (h.MW b o q)
  ·obtain⟨k,m,_⟩:=key j s a g;exact h.ok k s m
 ·grind[Afp]
 ·by_cases g:j=i
  ·subst g;rw[hi]at a;cases a;cases Afp u d;by_cases m:k=j;· exact m.symm
   ·exact absurd rf (l k x b n m p).1
  ·by_cases m:k=i;· subst m;rw[hi]at n;cases n;cases Afp u p;exact absurd rfl (l j s b a g d).1
   ·obtain⟨D,f,z⟩:=key j s a g;obtain⟨E,B,A⟩:=key k x n m;have:=h.nd D E s x c f B d p;rw[z,A]at this;split at this<;>split at this<;>omega
end
end Go.GK
namespace Go.GK
open Go.Maps
def AB{κ β:Type} [DecidableEq κ]:List (κ×β)->κ->Option β
 | [],_=>C7
 |(k,v)::m,x=>if k=x then Ac v else AB m x
def Iw{κ β:Type} [DecidableEq κ]:List (κ×β)->κ->β->List (κ×β)
 | [],_,_=>[]
 |(k,v)::m,x,y=>if k=x then(k,y)::m else(k,v)::Iw m x y
def Bw{κ β:Type} [DecidableEq κ](m:List (κ×β))(x:κ)(y:β):List (κ×β):=match AB m x with
 |some _=>Iw m x y
 |none=>m++[(x,y)]
section
variable {κ β : Type} [DecidableEq κ]
theorem X'(m:List (κ×β))(x:κ)(y:β):(Iw m x y).length=m.length:=by
 induction m with
 |nil=>rfl
 |cons p m b=>grind[Iw]
theorem Ya(m:List (κ×β))(x z:κ)(y:β):AB (Iw m x y) z=if z=x then(AB m x).map (λ_=>y)else AB m z:=by
 induction m with
 |nil=>simp[AB,Iw]
 |cons p m c=>
  grind[Iw,AB]
theorem Yb(m:List (κ×β))(x z:κ)(y:β)(h:AB m x=C7):AB (m++[(x,y)]) z=if z=x then Ac y else AB m z:=by
 induction m with
 |nil=>
  grind[AB]
 |cons p m c=>
  grind[AB]
theorem Ib(m:List (κ×β))(x z:κ)(y:β):AB (Bw m x y) z=if z=x then Ac y else AB m z:=by grind[Bw,AB,Yb,Ya]
theorem KA(m:List (κ×β))(x:κ)(y:β):(Bw m x y).length=if(AB m x).isSome then m.length else m.length+1:=by grind[Bw,AB,X']
end
section
variable{P:GQ}{a:Gs}
structure NZ(P:GQ)(kt:Gs)(κ:Type)where
 val:κ->BZ
 lit:κ->Lit
 ok:κ->Prop
 keyed:Keyed P kt
 of:∀k,ok k->keyOf P kt (val k)=Ac (lit k)
 key:∀k,WideAt.IsKeyLit (lit k)
 inj:∀k k',lit k=lit k'->k=k'
structure MElem(P:GQ)(et:Gs)(β:Type)where
 val:β->BZ
 Ae:β->DataW Unit
 ok:β->Prop
 of:∀b,ok b->plainElem P et (val b)=Ac (Ae b,[])
 inv:∀v b ps,plainElem P et v=Ac (Ae b,ps)->v=val b
 one:∀b,(val b).oneCell'=Bp
theorem vM{n:Int}(h:DW n):(Lit.int .i64 n).wf=Bp:=by simp_all[DW,Lit.wf,Lr.min,Lr.max,Lr.signed,Lr.bits]
def mkI(h:P.underlying a=Ac (.int .i64)):NZ P a Int where
 val n:= .int .i64 n
 lit n:= .int .i64 n
 ok n:=DW n
 keyed:=int_keyed h
 of k hk:=keyOf_int_mk h (vM hk)
 key _:=trivial
 inj _ _ h:=by grind
def mkS(h:P.underlying a=Ac .string):NZ P a Aq where
 val s:=sv s
 lit s:= .string s
 ok s:=s.length<=Ai
 keyed:=string_keyed h
 of k hk:=by
  have:=Go.WideMaps.keyOf_string_mk (s:=⟨⟨k⟩⟩) h (by show k.length<=maxLen;simp only[Ai,maxLen]at*;omega);trivial
 key _:=trivial
 inj _ _ h:=by grind
end
section
variable {P : GQ} {T : Gs} {E : Dn -> Option BZ} {H : Hp} {O : List Ax}
theorem Au.makeFunc{fn:Fn}{fs cs:List Dn}{vf vc:List BZ}(h:NV E fs=Ac vf)(g:NV E cs=Ac vc):Au P (.makeFunc fn fs.toArray cs.toArray) T E H O (.func fn vf.toArray vc.toArray):= .Ao λa w o i _ d _=>by have e:=Ic (a:=a) d h;have f:=Ic (a:=a) d g;simp_all[Kt,Instr.makeFunc]
theorem Ajt{x:Dn}{f:FuncId}{first caps:List BZ}{args:List Dn}{vs:List BZ}{tys:Array Gs}{R:BZ->Hp->List Ax->Prop}(d:TY P f)(s:E x=Ac (.func (.func f) first.toArray caps.toArray))(n:NV E args=Ac vs)(ht:TB P f (first++vs++caps) H O R):BM P (.call {callee:= .value x,args:=args.toArray,argTypes:=tys}) T E H O R:=λa w o next Q p _ g r k=>by
 have q:(Kt a.eval o).run P w= .ok (.enter f (first++vs++caps).toArray) w:=by have:=d.run (first++vs++caps).toArray w;simp[Kt,p,resolve,rm,g x _ s,invoke,Ic g n]at this⊢;omega
 unfold K_.wp;rw[q];refine(ht w r).mono ?_;rintro e t ⟨v,h,i,rfl,j,l,m⟩;grind
end
end Go.GK
namespace Go.GK
def cBy:Cd UInt8 where
 sz:=1
 BO _ b cs:=cs=[.int .u8 (b.toNat:Nat)]
 len h:=by grind
 mono _ h:=h
 one h:=by subst h;intro u hu;simp at hu;subst hu;rfl
theorem Wa{H:Hp} :∀ {l:Aq} {xs:List BZ},A2 cBy H l xs↔xs=Lib.byteCells l
 | [],xs=>Iff.rfl
 |b::l,xs=>by
  constructor;· rintro⟨c,f,rfl,d,e⟩;rw[show c=[.int .u8 (b.toNat:Nat)]from d,Wa.1 e];rfl
  ·intro h;exact⟨[.int .u8 (b.toNat:Nat)],Lib.byteCells l,h,rfl,Wa.2 rfl⟩
section
variable {P : GQ} {T : Gs} {E : Dn -> Option BZ} {H : Hp} {O : List Ax}
section
variable{x y:Dn}{e:Gs}{j:TypeInfo}{t:Gs}{b i:Nat}{src dst:Gs}{cs:Array BZ}{v:BZ}{pt it:Gs}
theorem Ajx{Ty:Gs}(i:P.underlying t=Ac (.pointer e))(f:P.info? e=Ac j)(k:E x=Ac (.pointer C7))(l:E y=Ac (.pointer C7)):Au P (.binOp .eql t x y Ty) T E H O (.bool Bp):= .Ao λa w o g _ c _=>by
 have h:(binOp .eql t (.pointer C7) (.pointer C7)).run P w= .ok (.bool Bp) w:=by
  have h:∀d:Nat,(lE (d+1) t (.pointer C7) (.pointer C7)).run P w= .ok Bp w:=λd=>by simp[lE,AX i,sizeOf,typeInfo,f,sameAddr]
  simp_all[binOp,pure,bool,rS,Alr]
 simp_all[Kt,eqGuard]
theorem Aki{Ty:Gs}{a:Addr}(i:P.underlying t=Ac (.pointer e))(f:P.info? e=Ac j)(k:E x=Ac (.pointer (Ac a)))(l:E y=Ac (.pointer C7)):Au P (.binOp .eql t x y Ty) T E H O (.bool Aj):= .Ao λm w o g _ c _=>by
 have h:(binOp .eql t (.pointer (Ac a)) (.pointer C7)).run P w= .ok (.bool Aj) w:=by
  have h:∀d:Nat,(lE (d+1) t (.pointer (Ac a)) (.pointer C7)).run P w= .ok Aj w:=λd=>by simp[lE,AX i,sizeOf,typeInfo,f,sameAddr]
  simp_all[binOp,pure,bool,rS,Alr]
 simp_all[Kt,eqGuard]
theorem Ako{Ty:Gs}{f:Gs}{off:Nat}(l:P.underlying t=Ac (.pointer f))(i:P.info? f=Ac j)(d:E x=Ac (ptr b off))(e:E y=Ac (ptr b off)):Au P (.binOp .neq t x y Ty) T E H O (.bool Aj):= .Ao λm w o k _ c _=>by simp_all[ptr,Kt,eqGuard,Lib.run_neq_ptr_same]
theorem Akt(n:P.underlying src=Ac (.pointer t))(g:P.underlying dst=Ac .unsafePointer)(ht:P.info? t=Ac j)(l:j.size≠0)(d:E x=Ac (ptr b 0))(hi:O[i]?=Ac (.Ah b (.cells cs e (0,0))))(h0:0<cs.size):Au P (.convert src dst x) T E H O (ptr b 0):= .Ao λq w o m _ k p=>by have c:=p.ok i _ hi;simp only[Ax.ok]at c;have h:=Lib.run_to_unsafe (P:=P) w (src:=src) (dst:=dst) (cells:=cs.size) (e:=e) ⟨b,0,C7⟩ n g ht l (by grind[IW.shape?]) h0;simp_all[ptr,Kt]
theorem Akr{u:Gs}(n:P.underlying src=Ac .unsafePointer)(g:P.underlying dst=Ac (.pointer u))(p:P.info? u=Ac j)(d:E x=Ac (ptr b 0))(hi:O[i]?=Ac (.Ah b (.cells cs e (0,0))))(l:liesAt P P.depth e (cs.size/P.cellsOf e) 0 u 1=Bp):Au P (.convert src dst x) T E H O (ptr b 0):= .Ao λr w o m _ k q=>by have c:=q.ok i _ hi;simp only[Ax.ok]at c;have h:=Lib.run_from_unsafe (P:=P) w (src:=src) (dst:=dst) (cells:=cs.size) (e:=e) ⟨b,0,C7⟩ n g p (by grind[IW.shape?]) l;simp_all[ptr,Kt]
theorem Aks{f:FuncId}{fn:Func}{tys:Array Gs}(m:P.funcs[f]?=Ac fn)(b:(fn.name== "runtime.NumGoroutine")=Aj)(k:fn.body.isNone=Bp)(n:Extern.findNext fn=C7)(e:Extern.find fn=Ac Extern.AbiNoEscape.same)(q:E x=Ac v):
  Au P (.call {callee:= .value (.func f),args:= #[x],argTypes:=tys}) T E H O v:= .Ao λj w o p _ l r=>by
 have h:=run_callFunc_extern m b k n e #[v] w;rw[Lib.run_noEscape]at h;have g:j.eval (.func f)= .func (.func f) #[] #[]:=rfl;simp[Kt,p,resolve,rm,g,invoke,l x _ q,h]
theorem Aku{p:Option Addr}(f:E x=Ac (.pointer p))(g:E y=Ac (.int .i64 0)):Au P (.call {callee:= .builtin .unsafeString,args:= #[x,y],argTypes:= #[pt,it]}) T E H O (sv []):= .Ao λi w o e _ c j=>by have h:=Lib.run_unsafeString_none (P:=P) w pt it o.type p;simp[Kt,e,resolve,invoke,builtin,c x _ f,c y _ g,h];rfl
theorem BM.unsafeString{l:Aq}{xs:List BZ}(M:P.underlying pt=Ac (.pointer e))(G:P.cellsOf e=1)(A:E x=Ac (AW v 0))(N:E y=Ac (.int .i64 (l.length:Nat)))(hi:O[i]?=Ac (.row v e 1 l.length xs))(D:A2 cBy H l xs)(h0:l≠ []):
  BM P (.call {callee:= .builtin .unsafeString,args:= #[x,y],argTypes:= #[pt,it]}) T E H O (λu B C=>B=H/\C=O.set i .emp/\u=sv l):= .Ao λR w o L _ t z=>by
 have a:=z.ok i _ hi;rcases a.2 with⟨_,Q⟩|⟨g,cap,cur,rfl,_,I,K,m,n,r⟩;· grind
 ·have s:=Wa.1 D;have h:=Lib.run_unsafeString_row (P:=P) w pt it o.type e M G g cur.size (by grind[IW.shape?]) l h0 (by omega) (by grind[maxLen]) (λj x J=>a.cells (g:=g) rfl j _ (by grind[Lib.byteCells]));refine⟨sv l,w.freeze ⟨g,0,C7⟩ l.length,H,O.set i .emp,?_,Hp.le.refl H,⟨rfl,rfl,rfl⟩,z.set hi (r':= .emp) ?_ trivial (λb F=>by cases F)⟩;· simp only[AW,xz]at A;simp[Kt,L,resolve,invoke,builtin,t x _ A,t y _ N,h];rfl
  ·have p:¬l.length=0:=λh=>h0 (OF.1 h);unfold IW.freeze;rw[if_neg p];refine⟨rfl,rfl,rfl,by simp,λk S q=>?_⟩;have:¬g=k:=λe=>q (by subst e;rfl);simp[Array.getElem?_modify,this]
end
end
end Go.GK
namespace Go.GK
open Go.Proofs
def HR(P:GQ)(H:Hp):Prop:= ∀w O,SH w H O->Lib.TabIs P w "internal/strconv.uint64pow10" .u64 Lib.pow10Tab
theorem HR.mono{P:GQ}{H a:Hp}(h:HR P H)(b:H.le a):HR P a:=λw O c=>h w O (c.weaken b)
theorem OT(w:IW)(k:Nat)(os:Array Obj):w.grownBy (Go.Sort.grow (w.drewN k) os) C7:=
 ⟨rfl,rfl,rfl,by simp,λb a _=>by grind[Go.Sort.grow,IW.drewN]⟩
section
variable {P : GQ} {H : Hp} {O : List Ax}
theorem jH.itoa{f:FuncId}{n:Int}(j:∀(n:Int), -9223372036854775808<=n->n<=9223372036854775807->∀(w:IW),Lib.TabIs P w "internal/strconv.uint64pow10" .u64 Lib.pow10Tab->Calls P f #[.int .i64 n] w λe w'=>e= .returned (.string ⟨(Lib.itoa n).toArray⟩)/\∃k os,w'=Go.Sort.grow (w.drewN k) os)
  (i:HR P H) (c:DW n):jH P f [.int .i64 n] H O (sv (Lib.itoa n)):=λw d=>
 (j n c.1 c.2 w (i w O d)).mono λe w' ⟨g,k,os,h⟩=>⟨g,by subst h;exact d.grown (OT w k os)⟩
end
end Go.GK
namespace Go.GK
def ofP(lo hi:Nat)(x:Nat):Bool:=Di (lo<=x)&&Di (x<=hi)
def aO(p:Nat->Bool)(k:Nat):List Nat:=(a_ k).filter p
def nK(p:Nat->Bool)(k:Nat):Nat:=(aO p k).length
def lst(p:Nat->Bool):Nat:=((a_ 256).find? p).getD 0
def anyS(p:Nat->Bool):Bool:=((a_ 256).find? p).isSome
def setLast:List (Nat×Nat)->Nat->List (Nat×Nat)
 | [],_=>[]
 | [a],k=>[(a.1,k)]
 |a::b::l,k=>a::setLast (b::l) k
def f_(p:Nat->Bool):Nat->List (Nat×Nat)
 |0=>[]
 |k+1=>if p k then(if 0<k/\p (k-1)=Bp then setLast (f_ p k) k else f_ p k++[(k,k)])else f_ p k
def A8(p:Nat->Bool)(b:Int):Bool:=Di (0<=b)&&Di (b<256)&&p b.toNat
def wa(p:Nat->Bool):Nat->Nat->Nat
 |0,y=>y
 |f+1,y=>if A8 p ((y:Int)+1)then wa p f (y+1)else y
def re(p:Nat->Bool)(y:Nat):Nat:=wa p (256-y) y
def rrTo(p:Nat->Bool)(k:Nat):List (Nat×Nat):=((a_ k).filter λx=>p x&& !A8 p ((x:Int)-1)).map λx=>(x,re p x)
attribute [irreducible] nK lst anyS aO f_ rrTo A8 re
abbrev St:=Nat->Bool
def nth(l:List St)(i:Nat):St:=l.getD i (λ_=>Aj)
def QR(l:List St)(x y:Nat):Bool:=l.all λp=>p x==p y
def cls(l:List St)(x y:Nat):Bool:=Di (x<=y)&&QR l x y
def ZX(l:List St):Nat->List St×St
 |0=>([],λ_=>Aj)
 |k+1=>if(ZX l k).2 k then ZX l k else((ZX l k).1++[cls l k],λy=>(ZX l k).2 y||cls l k y)
def ne(p:St):Bool:= !fh p (λ_=>Aj)
def xq(p s:St):St:=λx=>p x&&s x
def Yl(p s:St):St:=λx=>p x&&(λy=> !s y) x
def TU(a b:St)(j:Nat):St:=if j=0 then a else b
def two(p s:St)(j:Nat):List St:=([xq p s,Yl p s].take j).filter ne
def Z7(ps:List St)(s:St):List St:=ps.flatMap λp=>two p s 2
def oT(l:List St)(i:Nat):List St:=(l.take i).foldl Z7 [ofP 0 255]
def nx(l:List St)(i m j:Nat):List St:=Z7 ((oT l i).take m) (nth l i)++two (nth (oT l i) m) (nth l i) j
def cn(p:St):Nat:=nK p 256
def tot(ps:List St):Nat:=(ps.map cn).sum
def PD(b:Nat)(s:List St×St)(p:St):List St×St:=if p b then(s.1++[p],λy=>s.2 y||p y)else s
def RU(ps:List St):Nat->List St×St
 |0=>([],λ_=>Aj)
 |b+1=>if(RU ps b).2 b then RU ps b else ps.foldl (PD b) (RU ps b)
def wo(ps:List St)(b m:Nat):List St×St:=(ps.take m).foldl (PD b) (RU ps b)
theorem ne_eq(p:St):(!fh p (λ_=>Aj))=ne p:=rfl
attribute [irreducible] QR ZX oT nx RU wo nth cls ne xq Yl
def szs(l:List (Nat×Nat)):Nat:=(l.map λa=>a.2+1-a.1).sum
structure Good(l ps:List St):Prop where
 cls:∀p∈ps,∀x y,x<256->y<256->p x=Bp->(p y=Bp↔QR l x y=Bp)
 one:∀x,x<256->∃A p B,ps=A++p::B/\p x=Bp/\(∀q∈A,q x=Aj)/\∀q∈B,q x=Aj
def pr(l:List (Nat×Nat))(i:Nat):Nat×Nat:=l.getD i (0,0)
def rgU(l:List (Nat×Nat))(i:Nat)(z:Nat):Bool:=(l.take i).any λa=>ofP a.1 a.2 z
def rgN(l:List (Nat×Nat))(i:Nat):Nat:=szs (l.take i)
def jE(l:List St)(x y i:Nat):Bool:=QR (l.take i) x y
attribute [irreducible] pr rgU rgN jE
def xO(E:Dn->Option BZ)(lo hi:Option Dn)(l h:Int)(n:Nat):Prop:=(lo=C7/\l=0\/∃p k,lo=Ac p/\E p=Ac (.int k l))/\(hi=C7/\h=(n:Int)\/∃p k,hi=Ac p/\E p=Ac (.int k h))
section
variable {P : GQ} {T : Gs} {E : Dn -> Option BZ} {H : Hp} {O : List Ax} {α : Type} {c : Cd α}
section
variable{e t:Gs}{size bytes:Nat}{z:BZ}{n cap:Nat}{h:Int}{xs:List BZ}
theorem ID(a:Addr):a.add 0=a:=by cases a;simp[xz]
theorem Qv(ht:P.underlying t=Ac (.slice e)):P.underlying t=Ac (.slice (P.elem t)):=by simp[GQ.elem,ht]
theorem Qw(ht:P.underlying t=Ac (.slice e)):P.elem t=e:=by simp[GQ.elem,ht]
theorem ZT{a:Option Addr}{lo hi:Option Dn}{l:Int}{ac:Act}(ht:P.underlying t=Ac (.slice e))(s:TI P e size bytes z)(m:xO E lo hi l h n)(d:∀x v,E x=Ac v->ac.eval x=v)
  (h0:0<=l) (h1:l<=h) (h2:h<=(n:Nat)) (h3:n<=cap) (w:IW):(sL t (.slice a n cap) (lo.map ac.eval) (hi.map ac.eval) C7).run P w= .ok (sliced a l.toNat h.toNat cap size) w:=by
 have b:=Qv ht;have f:(rU (P.elem t)).run P w= .ok size w:=by rw[Qw ht];exact s.sizeOf
 rw[run_sliceAt_slice (h:=b)];obtain⟨r,o⟩:=m;rcases r with⟨rfl,rfl⟩|⟨p,k,rfl,i⟩<;>rcases o with⟨rfl,rfl⟩|⟨q,u,rfl,j⟩;· simp only[Akv];rw[run_slice_all (t:=t) (a:=a) (len:=n) (cap:=cap) (ht:=b),f];simp[iX]
 ·simp only[Akv,Adp,d q _ j];rw[run_slice_h (t:=t) (a:=a) (len:=n) (cap:=cap) (ht:=b) (h0:=h1) (h2:=by omega),f];simp[iX]
 ·simp only[Akv,Adp,d p _ i];rw[run_slice_l (t:=t) (a:=a) (len:=n) (cap:=cap) (ht:=b) (h0:=h0) (h1:=h1),f];simp[iX]
 ·simp only[Adp,d p _ i,d q _ j];rw[run_slice_lh (t:=t) (a:=a) (len:=n) (cap:=cap) (ht:=b) (h0:=h0) (h1:=h1) (h2:=by omega),f];simp[iX]
theorem PU{w:IW}{base:Nat}{g h:Nat}(j:h<=n)
  (p:w.ownsRow base e size (.slice (Ac ⟨g,0,C7⟩) n cap) n xs):w.ownsRow base e size (.slice (Ac ⟨g,0,C7⟩) h cap) h (xs.take (h*size)):=by
 obtain⟨l,m⟩:=p;rcases m with⟨k,_⟩|⟨r,i,cur,q,o,d,s,b,f,a⟩;· cases k
 ·cases q;refine⟨by rw[Abh,l];exact Aei (Abi _ j), .inr ⟨g,cap,cur,rfl,o,d,by omega,b,f,?_⟩⟩;rw[<-a,Ald,Aei (Abi _ j)]
theorem Ajr{x y:Dn}{v:BZ}{l:List α}{k:Lr}{i:Nat}(ht:P.underlying t=Ac (.slice e))(F:TI P e c.sz bytes z)(D:E x=Ac v)(N:E y=Ac (.int k h))
  (hi:O[i]?=Ac (.row v e c.sz l.length xs)) (f:0<=h/\h<=(l.length:Nat)):
  BM P (.slice t x C7 (Ac y) C7) T E H O (λv' G I=>G=H/\I=O.set i (.row v' e c.sz h.toNat (xs.take (h.toNat*c.sz)))):= .Ao λac w o C _ p u=>by
 have d:=u.ok i _ hi;simp only[Ax.ok]at d;have B:xO E C7 (Ac y) 0 h l.length:=⟨.inl ⟨rfl,rfl⟩, .inr ⟨y,k,rfl,N⟩⟩;rcases d.2 with⟨rfl,J⟩|⟨g,cap,cur,rfl,_,Q,r,K,L,s⟩
 ·have A:h=0:=by omega
  subst A;have n:=ZT (ac:=ac) (a:=C7) (cap:=0) ht F B p (Abn 0) f.1 f.2 (by omega) w;rw[J]at n;refine⟨.slice C7 0 0,w,H,_,?_,Hp.le.refl H,⟨rfl,rfl⟩,u.set hi (w':=w) (r':= .row (.slice C7 0 0) e c.sz 0 (xs.take (0*c.sz))) ⟨rfl,rfl,rfl,Aac _,λ_ _ _=>rfl⟩ ?_ ?_⟩
  ·have m:Sem.run P (sL t (.slice C7 0 0) C7 (Ac (ac.eval y)) C7) w= .ok (.slice C7 0 0) w:=by simpa [sliced]using n
   simp[Kt,C,p x _ D,m,iX]
  ·simpa [Ax.ok]using IW.ownsRow_nil w _ e c.sz
  ·intro b f;cases f
 ·have n:=ZT (ac:=ac) (a:=Ac ⟨g,0,C7⟩) (cap:=cap) ht F B p (Abn 0) f.1 f.2 r w;have M:sliced (Ac ⟨g,0,C7⟩) (0:Int).toNat h.toNat cap c.sz= .slice (Ac ⟨g,0,C7⟩) h.toNat cap:=by
   simp[sliced,ID]
  rw[M]at n;refine⟨_,w,H,_,?_,Hp.le.refl H,⟨rfl,rfl⟩,u.set hi (w':=w) (r':= .row (.slice (Ac ⟨g,0,C7⟩) h.toNat cap) e c.sz h.toNat (xs.take (h.toNat*c.sz))) ⟨rfl,rfl,rfl,Aac _,λ_ _ _=>rfl⟩ (PU (by omega) d) ?_⟩
  ·have m:Sem.run P (sL t (.slice (Ac ⟨g,0,C7⟩) l.length cap) C7 (Ac (ac.eval y)) C7) w= .ok (.slice (Ac ⟨g,0,C7⟩) h.toNat cap) w:=by simpa using n
   simp[Kt,C,p x _ D,m,iX]
  ·intro b f;exact .inl f
end
end
section
variable {α : Type}
abbrev Fam(α:Type):=List (BZ×List α×List BZ)
structure FamOk(c:Cd α)(H:Hp)(D:List (List α))(F:Fam α):Prop where
 Ae:F.map (·.2.1)=D
 lay:∀f∈F,A2 c H f.2.1 f.2.2
 one:∀f∈F,f.1.oneCell'=Bp
variable {c : Cd α} {H H' : Hp} {D : List (List α)} {F : Fam α}
theorem fK{xs:List BZ}{i:Nat}{v:BZ}(h:i<xs.length):Cy xs i [v]=xs.set i v:=by unfold Cy;simp only[Abo,Adq];exact(Adw (l:=xs) (i:=i) (a:=v)).symm▸(by rw[if_pos h];simp)
variable {w : IW} {A B R : List Ax} {e : Gs} {sz i : Nat} {f f' : BZ × List α × List BZ}
end
section
variable {w : IW} {H : Hp} {A B R : List Ax}
theorem Agx(h:SH w H (A++(B++R))):SH w H (B++(A++R)):=by
 refine h.pick (λj=>if j<B.length then A.length+j else if j<B.length+A.length then j-B.length else j) (λj s a=>?_) (λj k e f c=>?_)
 ·by_cases b:j<B.length;· rw[if_pos b];rw[Pe b]at a;rw[Aab (by omega),Acr,Pe b];exact a
  ·rw[if_neg b];rw[Aab (by omega)]at a;by_cases d:j<B.length+A.length;· rw[if_pos d];rw[Pe (by omega)]at a⊢;exact a
   ·rw[if_neg d];rw[Aab (by omega)]at a;rw[Aab (by omega),Aab (by omega)];rw[show j-A.length-B.length=j-B.length-A.length by omega];exact a
 ·split at c<;>split at c<;>(try split at c)<;>(try split at c)<;>omega
end
section
variable {P : GQ} {T : Gs} {E : Dn -> Option BZ} {H : Hp} {O : List Ax} {x y : Dn} {Tx Ty : Gs}
section
variable{k:Lr}{a:BitVec 64}{e:Int}
theorem Au.NQ(b:E x=Ac (K3 a))(c:E y=Ac (.int k e))(h0:0<=e):Au P (.binOp .shl Tx x y Ty) T E H O (K3 (a<<<e.toNat)):=
 Aie (n:=e.toNat) b (by rw[c,Abd h0])
theorem Au.T'(b:E x=Ac (K3 a))(c:E y=Ac (.int k e))(h0:0<=e):Au P (.binOp .shr Tx x y Ty) T E H O (K3 (a>>>e.toNat)):=
 Aid (n:=e.toNat) b (by rw[c,Abd h0])
end
end
end Go.GK
namespace Go.GK
open Go.RowKit Go.Deep
section
variable {H : Type} {enc : Gs × BZ -> H} {P : GQ} {w : IW} {base : Nat} {spare : Nat -> Bool} {held : Bool} {α β : Type}
theorem W_{c:Cd α}{a:Hp} :∀ {l:List (α×List BZ)},(∀x∈l,c.BO a x.1 x.2)->A2 c a (l.map (·.1)) (l.flatMap (·.2))
 | [],_=>rfl
 |x::l,h=>⟨x.2,l.flatMap (·.2),rfl,h x (by simp),W_ λy b=>h y (by simp[b])⟩
theorem KB{sz:Nat} :∀ {l:List (α×List BZ)},(∀x∈l,x.2.length=sz)->(l.flatMap (·.2)).length=l.length*sz
 | [],_=>by simp
 |x::l,h=>by rw[Afx,Aaa,h x (by simp),KB λy b=>h y (by simp[b]),Abo,Adm];omega
theorem OY{sz:Nat} :∀ {l:List (α×List BZ)} (_:∀x∈l,x.2.length=sz) (i j:Nat) (x:α×List BZ),l[i]?=Ac x->j<sz->(l.flatMap (·.2))[i*sz+j]?=x.2[j]?
 | [],_,i,j,x,h,_=>by simp at h
 |y::l,a,0,j,x,h,c=>by simp at h;subst h;rw[Afx,Aeo,Abm,Pe (by rw[a y (by simp)];exact c)]
 |y::l,a,i+1,j,x,h,c=>by rw[Afx,Aab (by rw[a y (by simp),Adm];omega),a y (by simp)];rw[show(i+1)*sz+j-sz=i*sz+j by rw[Adm];omega];exact OY (λz d=>a z (by simp[d])) i j x (by simpa using h) c
end
section
variable {H : Type} {enc : Gs × BZ -> H} {P : GQ} {w : IW} {base : Nat} {spare : Nat -> Bool} {held : Bool}
theorem HR.of{W:IW}{g:Nat}(c:P.globalNamed "internal/strconv.uint64pow10" =Ac g)(h:Lib.TabIs P W "internal/strconv.uint64pow10" .u64 Lib.pow10Tab):HR P (Hp.of W):=λw O f=>by
 have d:=f.below;have b:g<W.heap.size:=by
  unfold Lib.TabIs IW.var? at h;rw[c]at h;simp only[Option.bind_some]at h;split at h;· rename_i e;exact(Adv.1 e).1
  ·cases h
 exact Go.var?_below d c b h
end
end Go.GK
namespace Go.Proofs.YtimbbibpghnipaaGreatDoor
open Go.GK
theorem follows:Tryz.prog.follows .mixedOrders=Bp:=by kernel_rfl
theorem vV:TI Tryz.prog 346 1 8 (.pointer C7):=TI.of (by kernel_rfl)
theorem ry:TY Tryz.prog 407:=⟨Tryz.f407,Tryz.func407,by kernel_rfl,rfl⟩
theorem LW:jK Tryz.prog 348 0 0 346:=jK.of (k:=0) (by kernel_rfl)
variable {H : Hp} {O : List Ax}
section
variable{B:Nat}{v:BZ}
theorem wY:∃j,Tryz.prog.info? 348=Ac j/\j.size≠0:=by
 have h:(Tryz.prog.info? 348).map (λj=>j.size)=Ac 2:=by kernel_rfl
 cases hj:Tryz.prog.info? 348 with
 |none=>rw[hj]at h;cases h
 |some j=>rw[hj]at h;simp at h;exact⟨j,rfl,by omega⟩
theorem dq:TB Tryz.prog 407 [ptr B 0] H (.Ah B (.cells #[.pointer C7,v] 348 (0,0))::O) (λr H' O'=> .tuple #[]=r/\ .Ah B (.cells #[ptr B 0,v] 348 (0,0))::O=O'):=by
 obtain⟨j,hj,hj0⟩:=wY
 intro w hs
 refine lq Tryz.func407 rf rf rf ?_ hs
 clear hs w
 refine Wp.seq ?_
 refine Wp.region ?_
 refine Fh.op (Au.move rf) rf ?_
 refine Fh.op (Au.nilCheck rf) rf ?_
 refine Fh.op (Ago (o':=0) LW rf rf) rf ?_
 refine Fh.op (Agg (i:=0) (v:= .pointer C7) Tryz.underlying346 rf rf rf rf) rf ?_
 refine Fh.op (Ajx Tryz.underlying346 hj rf rf) rf ?_
 refine Fh.nil ?_
 refine Aho ?_
 refine Aji rf ?_
 refine Wp.region ?_
 refine Fh.op (Au.move rf) rf ?_
 refine Fh.op (Au.move rf) rf ?_
 refine Fh.op (Akt (i:=0) Tryz.underlying346 Tryz.underlying366 hj hj0 rf rf (Abc rf)) rf ?_
 refine Fh.op (Aks Tryz.func411 (by kernel_rfl) (by kernel_rfl) (by kernel_rfl) (by kernel_rfl) rf) rf ?_
 refine Fh.op (Akr (i:=0) Tryz.underlying366 Tryz.underlying346 hj rf rf (by kernel_rfl)) rf ?_
 refine Fh.op (Au.nilCheck rf) rf ?_
 refine Fh.op (Ago (o':=0) LW rf rf) rf ?_
 refine Fh.oE (i:=0) rf rf rf vV rf (Abc rf) ?_
 refine Fh.nil ?_
 exact Ajb rf (λw hs=>⟨_,_,_,rf,Hp.le.refl _,hs,rf,rf⟩)
theorem YB:TB Tryz.prog 407 [ptr B 0] H (.Ah B (.cells #[ptr B 0,v] 348 (0,0))::O) (λr H' O'=> .tuple #[]=r/\ .Ah B (.cells #[ptr B 0,v] 348 (0,0))::O=O'):=by
 obtain⟨j,hj,hj0⟩:=wY
 intro w hs
 refine lq Tryz.func407 rf rf rf ?_ hs
 clear hs w
 refine Wp.seq ?_
 refine Wp.region ?_
 refine Fh.op (Au.move rf) rf ?_
 refine Fh.op (Au.nilCheck rf) rf ?_
 refine Fh.op (Ago (o':=0) LW rf rf) rf ?_
 refine Fh.op (Agg (i:=0) (v:=ptr B 0) Tryz.underlying346 rf rf rf rf) rf ?_
 refine Fh.op (Aki Tryz.underlying346 hj rf rf) rf ?_
 refine Fh.nil ?_
 refine Aho ?_
 refine Aiq rf ?_
 refine Wp.seq ?_
 refine Wp.region ?_
 refine Fh.op (Au.move rf) rf ?_
 refine Fh.op (Au.nilCheck rf) rf ?_
 refine Fh.op (Ago (o':=0) LW rf rf) rf ?_
 refine Fh.op (Agg (i:=0) (v:=ptr B 0) Tryz.underlying346 rf rf rf rf) rf ?_
 refine Fh.op (Au.move rf) rf ?_
 refine Fh.op (Ako Tryz.underlying346 hj rf rf) rf ?_
 refine Fh.nil ?_
 refine Aho ?_
 refine Aiq rf ?_
 refine Wp.skip ?_
 exact Ajb rf (λw hs=>⟨_,_,_,rf,Hp.le.refl _,hs,rf,rf⟩)
theorem bldC{a:BZ}(ha:a= .pointer C7\/a=ptr B 0):TB Tryz.prog 407 [ptr B 0] H (.Ah B (.cells #[a,v] 348 (0,0))::O) (λr H' O'=> .tuple #[]=r/\ .Ah B (.cells #[ptr B 0,v] 348 (0,0))::O=O'):=by
 rcases ha with rfl|rfl
 ·exact dq
 ·exact YB
end
end Go.Proofs.YtimbbibpghnipaaGreatDoor
namespace Go.Proofs
open Go.Shelf
def Ahw:Go.Shelf.Ren:=⟨λ|171=>394|243=>408|246=>412|283=>413|284=>414|285=>415|286=>416|129=>310|317=>417|318=>418|319=>419|320=>420|337=>421|338=>422|n=>n,λ|3=>3|9=>9|2=>2|4=>4|171=>369|0=>0|53=>291|37=>268|5=>5|173=>371|212=>375|51=>289|20=>20|213=>376|46=>249|232=>377|233=>378|n=>n,λ|17=>0|18=>1|19=>2|n=>n⟩
theorem Ahv:Go.Proofs.LaysM.n171 Tryz.prog Ahw:= {
 mixed:=by kernel_rfl
 f129:=Tryz.func310.trans (congrArg Ac (by kernel_rfl))
 f171:=Tryz.func394.trans (congrArg Ac (by kernel_rfl))
 f243:=Tryz.func408.trans (congrArg Ac (by kernel_rfl))
 f246:=Tryz.func412.trans (congrArg Ac (by kernel_rfl))
 f283:=Tryz.func413.trans (congrArg Ac (by kernel_rfl))
 f284:=Tryz.func414.trans (congrArg Ac (by kernel_rfl))
 f285:=Tryz.func415.trans (congrArg Ac (by kernel_rfl))
 f286:=Tryz.func416.trans (congrArg Ac (by kernel_rfl))
 f317:=Tryz.func417.trans (congrArg Ac (by kernel_rfl))
 f318:=Tryz.func418.trans (congrArg Ac (by kernel_rfl))
 f319:=Tryz.func419.trans (congrArg Ac (by kernel_rfl))
 f320:=Tryz.func420.trans (congrArg Ac (by kernel_rfl))
 f337:=Tryz.func421.trans (congrArg Ac (by kernel_rfl))
 f338:=Tryz.func422.trans (congrArg Ac (by kernel_rfl))
 t0:=Tryz.underlying0
 a0:=Tryz.isAgg0
 z0:=Tryz.sizeOf0
 v0:=Tryz.zeroValue0
 t2:=Tryz.underlying2
 a2:=Tryz.isAgg2
 z2:=Tryz.sizeOf2
 v2:=Tryz.zeroValue2
 t3:=Tryz.underlying3
 a3:=Tryz.isAgg3
 z3:=Tryz.sizeOf3
 v3:=Tryz.zeroValue3
 t4:=Tryz.underlying4
 a4:=Tryz.isAgg4
 z4:=Tryz.sizeOf4
 v4:=Tryz.zeroValue4
 t5:=Tryz.underlying5
 a5:=Tryz.isAgg5
 z5:=Tryz.sizeOf5
 v5:=Tryz.zeroValue5
 t9:=Tryz.underlying9
 a9:=Tryz.isAgg9
 z9:=Tryz.sizeOf9
 v9:=Tryz.zeroValue9
 t20:=Tryz.underlying20
 a20:=Tryz.isAgg20
 z20:=Tryz.sizeOf20
 v20:=Tryz.zeroValue20
 t37:=Tryz.underlying268
 a37:=Tryz.isAgg268
 z37:=Tryz.sizeOf268
 v37:=Tryz.zeroValue268
 t46:=Tryz.underlying249
 a46:=Tryz.isAgg249
 z46:=Tryz.sizeOf249
 v46:=Tryz.zeroValue249
 t51:=Tryz.underlying289
 a51:=Tryz.isAgg289
 z51:=Tryz.sizeOf289
 v51:=Tryz.zeroValue289
 t53:=Tryz.underlying291
 a53:=Tryz.isAgg291
 z53:=Tryz.sizeOf291
 v53:=Tryz.zeroValue291
 t171:=Tryz.underlying369
 a171:=Tryz.isAgg369
 z171:=Tryz.sizeOf369
 v171:=Tryz.zeroValue369
 t173:=Tryz.underlying371
 a173:=Tryz.isAgg371
 z173:=Tryz.sizeOf371
 v173:=Tryz.zeroValue371
 t212:=Tryz.underlying375
 a212:=Tryz.isAgg375
 z212:=Tryz.sizeOf375
 v212:=Tryz.zeroValue375
 t213:=Tryz.underlying376
 a213:=Tryz.isAgg376
 z213:=Tryz.sizeOf376
 t232:=Tryz.underlying377
 a232:=Tryz.isAgg377
 z232:=Tryz.sizeOf377
 v232:=Tryz.zeroValue377
 t233:=Tryz.underlying378
 a233:=Tryz.isAgg378
 z233:=Tryz.sizeOf378
 v233:=Tryz.zeroValue378
 g17:=by kernel_rfl
 g18:=by kernel_rfl
 g19:=by kernel_rfl
 i0:=by kernel_rfl
 i2:=by kernel_rfl
 i3:=by kernel_rfl
 i4:=by kernel_rfl
 i5:=by kernel_rfl
 i9:=by kernel_rfl
 i20:=by kernel_rfl
 i37:=by kernel_rfl
 i46:=by kernel_rfl
 i51:=by kernel_rfl
 i53:=by kernel_rfl
 i171:=by kernel_rfl
 i173:=by kernel_rfl
 i212:=by kernel_rfl
 i232:=by kernel_rfl
 i233:=by kernel_rfl
 m17:=by kernel_rfl
 m18:=by kernel_rfl
 m19:=by kernel_rfl}
open Go.RowKit Go.Sort Go.Lib in
theorem Tryz.strconv_Itoa(n:Int)(h0: -9223372036854775808<=n)(h1:n<=9223372036854775807)(w:IW)(htab:Lib.TabIs Tryz.prog w "internal/strconv.uint64pow10" .u64 Lib.pow10Tab):
 Calls Tryz.prog 394 #[.int .i64 n] w λe w'=>e= .returned (.string ⟨(Lib.itoa n).toArray⟩)/\∃k os,w'=grow (w.drewN k) os:=Any.strconv_Itoa Ahv n h0 h1 w htab
def Ahx:Go.Shelf.Ren:=⟨λ|176=>392|249=>406|288=>410|283=>413|284=>414|285=>415|286=>416|129=>310|317=>417|318=>418|319=>419|320=>420|337=>421|338=>422|n=>n,λ|37=>268|2=>2|3=>3|53=>291|4=>4|9=>9|171=>369|0=>0|173=>371|212=>375|51=>289|5=>5|20=>20|213=>376|46=>249|232=>377|233=>378|n=>n,λ|17=>0|18=>1|19=>2|n=>n⟩
theorem Tryz.bf:Go.Proofs.LaysM.n176 Tryz.prog Ahx:= {
 mixed:=by kernel_rfl
 f129:=Tryz.func310.trans (congrArg Ac (by kernel_rfl))
 f176:=Tryz.func392.trans (congrArg Ac (by kernel_rfl))
 f249:=Tryz.func406.trans (congrArg Ac (by kernel_rfl))
 f283:=Tryz.func413.trans (congrArg Ac (by kernel_rfl))
 f284:=Tryz.func414.trans (congrArg Ac (by kernel_rfl))
 f285:=Tryz.func415.trans (congrArg Ac (by kernel_rfl))
 f286:=Tryz.func416.trans (congrArg Ac (by kernel_rfl))
 f288:=Tryz.func410.trans (congrArg Ac (by kernel_rfl))
 f317:=Tryz.func417.trans (congrArg Ac (by kernel_rfl))
 f318:=Tryz.func418.trans (congrArg Ac (by kernel_rfl))
 f319:=Tryz.func419.trans (congrArg Ac (by kernel_rfl))
 f320:=Tryz.func420.trans (congrArg Ac (by kernel_rfl))
 f337:=Tryz.func421.trans (congrArg Ac (by kernel_rfl))
 f338:=Tryz.func422.trans (congrArg Ac (by kernel_rfl))
 t0:=Tryz.underlying0
 a0:=Tryz.isAgg0
 z0:=Tryz.sizeOf0
 v0:=Tryz.zeroValue0
 t2:=Tryz.underlying2
 a2:=Tryz.isAgg2
 z2:=Tryz.sizeOf2
 v2:=Tryz.zeroValue2
 t3:=Tryz.underlying3
 a3:=Tryz.isAgg3
 z3:=Tryz.sizeOf3
 v3:=Tryz.zeroValue3
 t4:=Tryz.underlying4
 a4:=Tryz.isAgg4
 z4:=Tryz.sizeOf4
 v4:=Tryz.zeroValue4
 t5:=Tryz.underlying5
 a5:=Tryz.isAgg5
 z5:=Tryz.sizeOf5
 v5:=Tryz.zeroValue5
 t9:=Tryz.underlying9
 a9:=Tryz.isAgg9
 z9:=Tryz.sizeOf9
 v9:=Tryz.zeroValue9
 t20:=Tryz.underlying20
 a20:=Tryz.isAgg20
 z20:=Tryz.sizeOf20
 v20:=Tryz.zeroValue20
 t37:=Tryz.underlying268
 a37:=Tryz.isAgg268
 z37:=Tryz.sizeOf268
 v37:=Tryz.zeroValue268
 t46:=Tryz.underlying249
 a46:=Tryz.isAgg249
 z46:=Tryz.sizeOf249
 v46:=Tryz.zeroValue249
 t51:=Tryz.underlying289
 a51:=Tryz.isAgg289
 z51:=Tryz.sizeOf289
 v51:=Tryz.zeroValue289
 t53:=Tryz.underlying291
 a53:=Tryz.isAgg291
 z53:=Tryz.sizeOf291
 v53:=Tryz.zeroValue291
 t171:=Tryz.underlying369
 a171:=Tryz.isAgg369
 z171:=Tryz.sizeOf369
 v171:=Tryz.zeroValue369
 t173:=Tryz.underlying371
 a173:=Tryz.isAgg371
 z173:=Tryz.sizeOf371
 v173:=Tryz.zeroValue371
 t212:=Tryz.underlying375
 a212:=Tryz.isAgg375
 z212:=Tryz.sizeOf375
 v212:=Tryz.zeroValue375
 t213:=Tryz.underlying376
 a213:=Tryz.isAgg376
 z213:=Tryz.sizeOf376
 t232:=Tryz.underlying377
 a232:=Tryz.isAgg377
 z232:=Tryz.sizeOf377
 v232:=Tryz.zeroValue377
 t233:=Tryz.underlying378
 a233:=Tryz.isAgg378
 z233:=Tryz.sizeOf378
 v233:=Tryz.zeroValue378
 g17:=by kernel_rfl
 g18:=by kernel_rfl
 g19:=by kernel_rfl
 i0:=by kernel_rfl
 i2:=by kernel_rfl
 i3:=by kernel_rfl
 i4:=by kernel_rfl
 i5:=by kernel_rfl
 i9:=by kernel_rfl
 i20:=by kernel_rfl
 i37:=by kernel_rfl
 i46:=by kernel_rfl
 i51:=by kernel_rfl
 i53:=by kernel_rfl
 i171:=by kernel_rfl
 i173:=by kernel_rfl
 i212:=by kernel_rfl
 i232:=by kernel_rfl
 i233:=by kernel_rfl
 m17:=by kernel_rfl
 m18:=by kernel_rfl
 m19:=by kernel_rfl}
end Go.Proofs
namespace Go.GV
open Go Go.GK
def iK:Int->Bool
 | .ofNat m=>iT m 9223372036854775807
 | .negSucc m=>iT m 9223372036854775807
theorem b_:∀(n:Int),iK n=Bp↔DW n
 | .ofNat m=>by have e:Int.ofNat m=(m:Int):=rfl;simp only[iK,DW,Nat.ble_eq,e];omega
 | .negSucc m=>by simp only[iK,DW,Nat.ble_eq];omega
instance(priority:=2000) decF64(n:Int):Decidable (-9223372036854775808<=n/\n<=9223372036854775807):=decidable_of_iff (iK n=Bp) (b_ n)
inductive Ty where
 |int (k:Lr)|bool|str|sl (t:Ty)|st (t:Ty)|pr (a b:Ty)|un|bs|nm (i:Nat)|ar (n:Nat) (t:Ty)
def kb:Lr->Lr->Bool
 | .i8, .i8| .i16, .i16| .i32, .i32| .i64, .i64| .u8, .u8| .u16, .u16| .u32, .u32| .u64, .u64=>Bp
 |_,_=>Aj
theorem OO:∀ {a b:Lr},kb a b=Bp->a=b:=by intro a b;cases a<;>cases b<;>simp[kb]
def Ty.JR:Ty->Ty->Bool
 | .int j, .int k=>kb j k
 | .bool, .bool| .str, .str| .un, .un| .bs, .bs=>Bp
 | .sl a, .sl b| .st a, .st b=>a.JR b
 | .pr a b, .pr c d=>a.JR c&&b.JR d
 | .nm i, .nm j=>Hj i j
 | .ar n a, .ar m b=>Hj n m&&a.JR b
 |_,_=>Aj
theorem Adl:∀ {a b:Ty},a.JR b=Bp->a=b
 | .int j,b,h=>by cases b<;>simp_all [Ty.JR];exact OO h
 | .bool,b,h=>by grind[Ty.JR]
 | .str,b,h=>by grind[Ty.JR]
 | .un,b,h=>by grind[Ty.JR]
 | .bs,b,h=>by grind[Ty.JR]
 | .nm i,b,h=>by cases b<;>simp_all [Ty.JR]
 | .sl a,b,h=>by cases b<;>simp_all [Ty.JR];exact Adl h
 | .st a,b,h=>by cases b<;>simp_all [Ty.JR];exact Adl h
 | .pr a c,b,h=>by cases b<;>simp_all [Ty.JR];exact⟨Adl h.1,Adl h.2⟩
 | .ar n a,b,h=>by cases b<;>simp_all [Ty.JR];exact Adl h.2
theorem gY(k:Lr):kb k k=Bp:=by cases k<;>rfl
theorem Ty.SO(t:Ty):t.JR t=Bp:=by
 induction t with
 |int k=>exact gY k
 |_=>simp_all [Ty.JR]
def Ty.den(T:Nat->Type):Ty->Type
 | .int _=>Int
 | .bool=>Bool
 | .str=>Aq
 | .sl t=>List (t.den T)
 | .st t=>t.den T
 | .pr a b=>a.den T×b.den T
 | .un=>Unit
 | .bs=>ze
 | .nm i=>T i
 | .ar _ t=>List (t.den T)
def Ty.agg:Ty->Bool
 | .st _| .bs| .nm _| .ar _ _| .pr _ _| .un=>Bp
 |_=>Aj
section
variable{T:Nat->Type}
def HB:Ty->Bool
 | .int _| .bool| .str| .un| .bs=>Bp
 | .st t=>HB t
 | .pr a b=>HB a&&HB b
 |_=>Aj
def Tg{a b:Ty}(h:a.JR b=Bp)(x:a.den T):b.den T:=Eq.rec (motive:=λb _=>b.den T) x (Adl h)
def cK(k:Lr):Cd Int where
 sz:=1
 BO _ n c:=c=[.int k n]/\k.min<=n/\n<=k.max
 len h:=by grind
 mono _ h:=h
 one h:=by rw[h.1];intro u a;simp at a;subst a;rfl
def rP:Lr->Cd Int
 | .i64=>rQ
 | .u8=>cU8
 |k=>cK k
def cUn:Cd Unit where
 sz:=0
 BO _ _ b:=b=[]
 len h:=by grind
 mono _ h:=h
 one h:=by grind
def Tf{T:Nat->Type}(c:(i:Nat)->Cd (T i)):(t:Ty)->Cd (t.den T)
 | .int k=>rP k
 | .bool=>cB
 | .str=>cS
 | .sl t=>cL (Tf c t)
 | .st t=>Tf c t
 | .pr a b=>cP (Tf c a) (Tf c b)
 | .un=>cUn
 | .bs=>cBs
 | .nm i=>c i
 | .ar n t=>cA n (Tf c t)
structure C9 where
 T:Nat->Type
 body:Nat->Ty
 out:(i:Nat)->T i->(body i).den T
 wX:(i:Nat)->(body i).den T->T i
 size:Nat->Nat
 id:Gs->Option Nat
 cd:(i:Nat)->Cd (T i)
 size_eq:∀i,(cd i).sz=size i
 LM:∀i x,out i (wX i x)=x
 lay:∀ {i H a cs},(cd i).BO H a cs↔(Tf cd (body i)).BO H (out i a) cs
 prog:Option GQ:=C7
 inv:Hp->Prop:=λ_=>True
 CY:∀ {H H'},H.le H'->inv H->inv H':=by intros;trivial
end
section
variable (N : C9)
abbrev C9.c(t:Ty):Cd (t.den N.T):=Tf N.cd t
def Ty.sz:Ty->Nat
 | .st t=>t.sz
 | .pr a b=>a.sz+b.sz
 | .un=>0
 | .bs=>4
 | .nm i=>N.size i
 | .ar n t=>n*t.sz
 |_=>1
variable {N}
section
variable{H:Hp}{cs:List BZ}
theorem Bn:∀t:Ty,(N.c t).sz=t.sz N
 | .int k=>by cases k<;>rfl
 | .bool=>rfl
 | .str=>rfl
 | .sl _=>rfl
 | .st t=>Bn t
 | .pr a b=>by show(N.c a).sz+(N.c b).sz=a.sz N+b.sz N;rw[Bn a,Bn b]
 | .un=>rfl
 | .bs=>rfl
 | .nm i=>N.size_eq i
 | .ar n t=>by show n*(N.c t).sz=n*t.sz N;rw[Bn t]
theorem Pb{a b:Ty}(h:a.JR b=Bp){x:a.den N.T}(d:(N.c a).BO H x cs):(N.c b).BO H (Tg h x) cs:=by have e:=Adl h;subst e;exact d
theorem Bg{t:Ty}{H:Hp}{x:t.den N.T}{cs:List BZ}(h:(N.c t).BO H x cs):cs.length=t.sz N:=by rw[<-Bn];exact(N.c t).len h
def UP(k:Lr)(n:Int):Prop:=match k with
 | .i64=>True
 | .u8=>0<=n/\n<=255
 |k=>k.min<=n/\n<=k.max
theorem D4{k:Lr}{n:Int} :(rP k).BO H n cs↔cs=[.int k n]/\UP k n:=by cases k<;>simp[rP,rQ,cU8,cK,UP]
end
end
def rdH(v:BZ):Option (DataW BZ×List MemPlace):=Ac (.held v,[])
section
variable {P : GQ} {kt et : Gs} {κ : Type} [DecidableEq κ]
def QX(K:NZ P kt κ)(b:Nat)(m:List (κ×BZ))(w:IW):Prop:= ∃D:DataW BZ,w.ownsMap P kt rdH b m.length D/\Maps.size D=m.length/\(∀k,Maps.has D (K.lit k)=(AB m k).isSome)/\∀k x,AB m k=Ac x->∀z,D.atKey (K.lit k) z= .held x
def Ks(K:NZ P kt κ)(b:Nat)(m:List (κ×BZ)):Ax:= .own b (QX K b m) (λ_ ⟨_,h,_⟩=>h.lt) (λ_ _ _ ⟨D,h,c⟩ d a=>⟨D,h.kept d (λe=>a e.symm),c⟩)
variable {K : NZ P kt κ} {T : Gs} {E : Dn -> Option BZ} {H : Hp} {O : List Ax} {t : Gs}
section
variable{b:Nat}{m:List (κ×BZ)}{x:Dn}{i:Nat}{k:κ}{y:Dn}{v:BZ}{n bytes:Nat}{z:BZ}{u:Dn}
theorem Ahm(ht:P.underlying t=Ac (.map kt et))(C:TI P et n bytes z)(A:E x=Ac (.map (Ac b)))(B:E y=Ac (K.val k))(q:K.ok k)(hi:O[i]?=Ac (Ks K b m)):
  Au P (.lookup t x y Aj) T E H O ((AB m k).getD z):= .Ao λG w o r _ g s=>by
 obtain⟨D,j,I,l,p⟩:QX K b m w:=s.ok i _ hi;obtain⟨v,F,d,a⟩:=j.lookup K.keyed ht C.zeroValue (zd:= .held z) (zp:=[]) rfl (K.of k q);have e:v=(AB m k).getD z:=by
  have a:Ac ((DataW.held v:DataW BZ),([]:List MemPlace))=Ac (_,F):=a;cases h:AB m k with
  |none=>
   grind[Maps.atKey_of_not_has]
  |some u=>simp_all
 simp_all[Kt]
theorem Ahn(ht:P.underlying t=Ac (.map kt et))(F:TI P et n bytes z)(B:E x=Ac (.map (Ac b)))(C:E y=Ac (K.val k))(r:K.ok k)(hi:O[i]?=Ac (Ks K b m)):
  Au P (.lookup t x y Bp) T E H O (.tuple #[(AB m k).getD z, .bool (AB m k).isSome]):= .Ao λI w o s _ j A=>by
 obtain⟨D,p,J,h,q⟩:QX K b m w:=A.ok i _ hi;obtain⟨v,G,a,c⟩:=p.look_ok K.keyed ht F.zeroValue (zd:= .held z) (zp:=[]) rfl (K.of k r);have e:v=(AB m k).getD z:=by
  have c:Ac ((DataW.held v:DataW BZ),([]:List MemPlace))=Ac (_,G):=c;cases l:AB m k with
  |none=>
   grind[Maps.atKey_of_not_has]
  |some u=>simp_all
 simp_all[Kt]
theorem Aja(ht:P.underlying t=Ac (.map kt et))(j:E x=Ac (.map (Ac b)))(hi:O[i]?=Ac (Ks K b m)):
  Au P (.call {callee:= .builtin .len,args:= #[x],argTypes:= #[t]}) T E H O (.int .i64 ((m.length:Nat):Int)):= .Ao λk w o g _ f h=>by
 obtain⟨D,d,e,l,n⟩:QX K b m w:=h.ok i _ hi;have:=d.len ht o.type;rw[e]at this;simp[Kt,g,f x _ j,resolve,invoke,builtin,this]
theorem QX.store{w:IW}(h:QX K b m w)(ht:P.underlying t=Ac (.map kt et))(u:K.ok k)(B:m.length<=Ai):
  ∃w',(Instr.mapUpdate t (.map (Ac b)) (K.val k) v).run P w= .ok () w'/\QX K b (Bw m k v) w'/\w.grownBy w' (Ac b):=by
 obtain⟨D,f,r,l,s⟩:=h;obtain⟨w',o,p,q⟩:=f.update K.keyed ht (by simp only[Ai,maxLen]at*;omega) (K.of k u) (d:= .held v) (ps:=[]) rfl;have c:Maps.size (D.put (K.lit k) (.held v))=(Bw m k v).length:=by rw[Maps.size_put (f.tidy K.keyed),l k,r,KA]
 refine⟨w',o,⟨_,?_,c,λg=>?_,λg x a z=>?_⟩,q⟩
 ·obtain⟨j,clock,y,A,C,n⟩:=p;refine⟨j,clock,y,A,?_,n⟩;simp_all[Maps.size,Go.length_read,Aac]
 ·rw[Ib];by_cases e:g=k;· subst e;rw[if_pos rfl,Maps.has_put_same f.isMap (K.key _)];rfl
  ·rw[if_neg e,Maps.has_put_other (λx=>e (K.inj _ _ x)),l]
 ·rw[Ib]at a;by_cases e:g=k;· subst e;rw[if_pos rfl]at a;injection a with a;subst a;exact Maps.atKey_put_same f.isMap (K.key _) _ _
  ·rw[Maps.atKey_put_other (λx=>e (K.inj _ _ x))];grind
theorem Ahi(ht:P.underlying t=Ac (.map kt et))(A:E x=Ac (.map (Ac b)))(B:E y=Ac (K.val k))(z:E u=Ac v)(q:K.ok k)(r:m.length<=Ai)(hi:O[i]?=Ac (Ks K b m)):
  BM P (.mapUpdate t x y u) T E H O (λ_ g h=>g=H/\h=O.set i (Ks K b (Bw m k v))):= .LO λa w o s _ e f=>by
 obtain⟨C,j,l,n⟩:=QX.store (f.ok i _ hi) ht q r;refine⟨C,H,_,?_,Hp.le.refl H,⟨rfl,rfl⟩,f.set hi n l (λc p=> .inl p)⟩;simp_all[Kt]
theorem Ahg(ht:P.underlying t=Ac (.map kt et))(A:E x=Ac (.map (Ac b)))(B:E y=Ac (K.val k))(z:E u=Ac v)(q:K.ok k)(r:m.length<=Ai)(hi:O[i]?=Ac (Ks K b m)):
  BM P (.insert t x y u) T E H O (λ_ g h=>g=H/\h=O.set i (Ks K b (Bw m k v))):= .LO λa w o s _ e f=>by
 obtain⟨C,j,l,n⟩:=QX.store (f.ok i _ hi) ht q r;refine⟨C,H,_,?_,Hp.le.refl H,⟨rfl,rfl⟩,f.set hi n l (λc p=> .inl p)⟩;simp_all[Kt]
theorem Ahh(K:NZ P kt κ):BM P (.makeMap t C7) T E H O (λv d e=> ∃B,v= .map (Ac B)/\d=H/\e=Ks K B []::O):= .Ao λa w o g _ j i=>by
 refine⟨.map (Ac w.heap.size),w.alloc (.map #[] 0),H,Ks K w.heap.size []::O,?_,Hp.le.refl H,⟨_,rf,rf,rf⟩,i.push (IW.grownBy_alloc w _ C7) ?_ (λb f=>by grind[Ks,Ax.has])⟩;· simp[Kt,g,Go.RowKit.run_makeMap]
 ·exact⟨.map [],IW.ownsMap_made w P kt _,rfl,λk=>rfl,λk x h=>by cases h⟩
end
end
section
variable{P:GQ}
def gE:Int->Nat
 | .ofNat n=>2*n
 | .negSucc n=>2*n+1
theorem gD:∀ {a b:Int},gE a=gE b->a=b
 | .ofNat n, .ofNat m,h=>by grind[gE]
 | .ofNat n, .negSucc m,h=>by grind[gE]
 | .negSucc n, .ofNat m,h=>by grind[gE]
 | .negSucc n, .negSucc m,h=>by grind[gE]
def np(m n:Nat):Nat:=(m+n)*(m+n)+m
theorem ns{m n a b:Nat}(h:m+n<a+b):np m n<np a b:=by have c:(m+n+1)*(m+n+1)<=(a+b)*(a+b):=Abv h h;grind[np]
theorem pT{m n a b:Nat}(h:np m n=np a b):m=a/\n=b:=by
 rcases Acx (m+n) (a+b)with e|e|e;· have:=ns e;omega
 ·grind[np]
 ·have:=ns e;omega
open Classical in
noncomputable def VX(x:Int×Int):Lit:=if DW x.1/\DW x.2 then .string (keyBytes [.int .i64 x.1, .int .i64 x.2])else .int .u8 ((np (gE x.1) (gE x.2):Nat):Int)
def im:Option TypeDesc->Bool
 |some (.int .i64)=>Bp
 |_=>Aj
theorem Wj{d:Option TypeDesc}(h:im d=Bp):d=Ac (.int .i64):=by grind[im]
def OM(P:GQ)(g:Gs):Bool:=(bg g P.types.size&&iT (P.types.size+2) 10000)&&(P.keyType g&&match P.underlying g with
 |some (.struct ⟨[a,b]⟩)=>Hj (P.cellsOf g) 2&&((Hj a.offset 0&&(Hj (P.cellsOf a.type) 1&&im (P.underlying a.type)))&&(Hj b.offset 1&&(Hj (P.cellsOf b.type) 1&&im (P.underlying b.type))))
 |_=>Aj)
theorem Le{d:Nat}{t:Gs}{a:Int}(c:P.underlying t=Ac (.int .i64))(b:DW a):P.keyLits (d+1) t [.int .i64 a]=Ac [.int .i64 a]:=by unfold GQ.keyLits;simp only[c];rw[if_pos ⟨trivial,vM b⟩]
theorem PT{P:GQ}{g:Gs}(h:OM P g=Bp){a b:Int}(y:DW a)(z:DW b):keyOf P g (.agg #[.int .i64 a, .int .i64 b])=Ac (.string (keyBytes [.int .i64 a, .int .i64 b])):=by
 unfold OM at h;simp only[AT]at h;obtain⟨⟨q,D⟩,e,m⟩:=h;split at m
 ·rename_i j k n;simp only[AT]at m;obtain⟨c,⟨r,o,t⟩,s,p,u⟩:=m;have c:=AI c;have r:=AI r;have o:=AI o;have s:=AI s;have p:=AI p;have t:=Wj t;have u:=Wj u;have C:(⟨[j,k]⟩:Array _).all (λf=>f.name != "_")=Bp:=by
   unfold GQ.keyType GQ.keyTypeAt at e;rw[n]at e;simp only[AT]at e;have e:=e.1.1;simp at e⊢;exact⟨e.1.1,e.2.1⟩
  have q:g<P.types.size:=by simpa using q
  obtain⟨d,v⟩:∃d,P.types.size=d+1:=⟨P.types.size-1,(Nat.succ_pred_eq_of_pos (Afr (Abe _) q)).symm⟩;have B:P.keyLits (P.types.size+1) g [.int .i64 a, .int .i64 b]=Ac [.int .i64 a, .int .i64 b]:=by
   unfold GQ.keyLits;simp only[n];rw[if_pos ⟨by rw[c];rfl,C⟩];have w:P.keyLits P.types.size j.type ((([.int .i64 a, .int .i64 b]:List BZ).drop j.offset).take (P.cellsOf j.type))=Ac [.int .i64 a]:=by rw[r,o,v];exact Le t y
   have x:P.keyLits P.types.size k.type ((([.int .i64 a, .int .i64 b]:List BZ).drop k.offset).take (P.cellsOf k.type))=Ac [.int .i64 b]:=by rw[s,p,v];exact Le u z
   simp[w,x]
  unfold keyOf;rw[n];have A:(P.keyType g&&(BZ.agg #[.int .i64 a, .int .i64 b]).formed P g)=Bp:=by rw[e,Alh];unfold BZ.formed;rw[n];simp[c]
  rw[if_pos A];show(P.keyLits (P.types.size+1) g [.int .i64 a, .int .i64 b]).map _=_;grind
 grind
noncomputable def mkP{g:Gs}(n:laidOutB P=Bp)(h:OM P g=Bp):NZ P g (Int×Int)where
 val x:= .agg #[.int .i64 x.1, .int .i64 x.2]
 lit:=VX
 ok x:=DW x.1/\DW x.2
 keyed:=by
  unfold OM at h;simp only[AT]at h;obtain⟨⟨a,c⟩,i,d⟩:=h;have a:g<P.types.size:=by simp_all
  have c:P.types.size+2<=10000:=by simp_all
  refine Maps.Keyed.of_law (deep_law_laid n (m:=P.types.size+1) (by omega) a i ?_);grind
 of x b:=by grind[VX,PT]
 key x:=by unfold VX;split<;>trivial
 inj x y e:=by
  unfold VX at e;split at e
  ·rename_i b;split at e
   ·rename_i o;have f:=h;unfold OM at f;simp only[AT]at f;obtain⟨⟨a,c⟩,i,d⟩:=f;have a:g<P.types.size:=by simpa using a
    have c:P.types.size+2<=10000:=by simpa using c
    have r:=deep_law_laid n (m:=P.types.size+1) (by omega) a i (by
     split at d;· rename_i j;rw[j]
     ·cases d);have l:=PT h b.1 b.2;rw[e]at l;have:=r.inj l (PT h o.1 o.2);simp at this;exact Acp this.1 this.2
   grind
  grind[np,gE,pT,Prod.ext,gD]
end
end Go.GV
namespace Go.GK
section
variable {w : IW} {H : Hp} {O : List Ax} {i : Nat} {v : BZ} {e e' : Gs} {n sz : Nat} {xs : List BZ} {rs : List (Option (Nat × List BZ))}
section
variable{α:Type}{j:Nat}{s:α}
def FW(e':Gs)(sz:Nat):List BZ->List (Option (Nat×List BZ))->List Ax
 |u::xs,Ac (m,ys)::rs=> .row u e' sz m ys::FW e' sz xs rs
 |_::xs,C7::rs=> .emp::FW e' sz xs rs
 |_,_=>[]
theorem Qo:∀ {xs:List BZ} {rs:List (Option (Nat×List BZ))} {a:Nat} {r:Ax},(FW e' sz xs rs)[a]?=Ac r->∃u,xs[a]?=Ac u/\((∃m ys,rs[a]?=Ac (Ac (m,ys))/\r= .row u e' sz m ys)\/r= .emp)
 |u::xs,Ac (m,ys)::rs,0,r,h=>by simp[FW]at h;exact⟨u,rfl, .inl ⟨m,ys,rfl,h.symm⟩⟩
 |u::xs,Ac (m,ys)::rs,a+1,r,h=>by have:=Qo (xs:=xs) (rs:=rs) (a:=a) (r:=r) (by simpa [FW]using h);simpa using this
 |u::xs,C7::rs,0,r,h=>by simp[FW]at h;exact⟨u,rfl, .inr h.symm⟩
 |u::xs,C7::rs,a+1,r,h=>by have:=Qo (xs:=xs) (rs:=rs) (a:=a) (r:=r) (by simpa [FW]using h);simpa using this
 | [],_,_,_,h=>by simp[FW]at h
 |_::_,[],_,_,h=>by simp[FW]at h
theorem Qp:∀ {xs:List BZ} {rs:List (Option (Nat×List BZ))} {a:Nat} {u:BZ} {m:Nat} {ys:List BZ},xs[a]?=Ac u->rs[a]?=Ac (Ac (m,ys))->(FW e' sz xs rs)[a]?=Ac (.row u e' sz m ys)
 |_::_,Ac (_,_)::_,0,_,_,_,h,k=>by simp at h k;obtain⟨rfl,rfl⟩:=k;subst h;rfl
 |_::_,C7::_,0,_,_,_,_,k=>by simp at k
 |_::xs,Ac (_,_)::rs,a+1,_,_,_,h,k=>by simp only[FW,Acs];exact Qp (by simpa using h) (by simpa using k)
 |_::xs,C7::rs,a+1,_,_,_,h,k=>by simp only[FW,Acs];exact Qp (by simpa using h) (by simpa using k)
 | [],_,_,_,_,_,h,_=>by simp at h
 |_::_,[],_,_,_,_,_,k=>by simp at k
theorem Qm:∀ {xs:List BZ} {rs:List (Option (Nat×List BZ))} {a:Nat} {u:BZ} {q:Nat×List BZ} {m:Nat} {ys:List BZ},xs[a]?=Ac u->rs[a]?=Ac (Ac q)->(FW e' sz xs rs).set a (.row u e' sz m ys)=FW e' sz xs (rs.set a (Ac (m,ys)))
 |_::_,Ac (_,_)::_,0,_,_,_,_,h,_=>by simp at h;subst h;rfl
 |_::_,C7::_,0,_,_,_,_,_,k=>by simp at k
 |_::xs,Ac (_,_)::rs,a+1,_,_,_,_,h,k=>by simp only[FW,Afs];rw[Qm (by simpa using h) (by simpa using k)]
 |_::xs,C7::rs,a+1,_,_,_,_,h,k=>by simp only[FW,Afs];rw[Qm (by simpa using h) (by simpa using k)]
 | [],_,_,_,_,_,_,h,_=>by simp at h
 |_::_,[],_,_,_,_,_,_,k=>by simp at k
theorem Cf{O:List α}{r:α}(h:(O.set i r)[j]?=Ac s):(j=i/\s=r)\/(j≠i/\O[j]?=Ac s):=by
 rw[Aen]at h;by_cases e:i=j
 ·subst e;by_cases a:i<O.length;· simp[a]at h;exact .inl ⟨rfl,h.symm⟩
  ·simp[a]at h
 ·simp[e]at h;exact .inr ⟨λx=>e x.symm,h⟩
theorem Pl{A B:List α}(h:(A++B)[j]?=Ac s):(j<A.length/\A[j]?=Ac s)\/∃a,j=A.length+a/\B[a]?=Ac s:=by
 by_cases b:j<A.length;· rw[Pe b]at h;exact .inl ⟨b,h⟩
 ·rw[Aab (by omega)]at h;exact .inr ⟨j-A.length,by omega,h⟩
theorem SH.flat(h:SH w H O)(hi:O[i]?=Ac (.Ck v e n xs e' sz rs)):SH w H (O.set i (.row v e 1 n xs)++FW e' sz xs rs):=by
 have F:IE w v e n xs e' sz rs:=h.ok i _ hi;have key:∀j r,(O.set i (.row v e 1 n xs)++FW e' sz xs rs)[j]?=Ac r->(j≠i/\j<O.length/\O[j]?=Ac r)\/(j=i/\r= .row v e 1 n xs)\/∃a u,j=O.length+a/\xs[a]?=Ac u/\((∃m l,rs[a]?=Ac (Ac (m,l))/\r= .row u e' sz m l)\/r= .emp):=λj r s=>by
  rcases Pl s with⟨d,f⟩|⟨a,d,f⟩
  ·rcases Cf f with⟨o,p⟩|⟨o,p⟩;· exact .inr (.inl ⟨o,p⟩)
   ·exact .inl ⟨o,by simpa using d,p⟩
  ·obtain⟨u,o,p⟩:=Qo f;exact .inr (.inr ⟨a,u,by simpa using d,o,p⟩)
 refine⟨h.MW,h.os,h.output,h.tape,λj r s=>?_,λj r b s g=>?_,λj k r q b s G g c=>?_⟩
 ·rcases key j r s with⟨_,_,d⟩|⟨_,rfl⟩|⟨a,u,_,d,⟨m,l,f,rfl⟩|rfl⟩;· exact h.ok j r d
  ·exact F.top
  ·exact F.row a u m l d f
  ·trivial
 ·rcases key j r s with⟨_,_,d⟩|⟨_,rfl⟩|⟨a,u,_,d,⟨m,l,f,rfl⟩|rfl⟩;· exact h.Iz j r b d g
  ·exact h.Iz i _ b hi (.inl g)
  ·exact h.Iz i _ b hi (.inr ⟨a,u,m,l,d,f,g⟩)
  ·exact g.elim
 ·have y:∀ {j k:Nat} {r q:Ax},(j≠i/\j<O.length/\O[j]?=Ac r)->r.has b->((k=i/\q= .row v e 1 n xs)\/∃a u,k=O.length+a/\xs[a]?=Ac u/\((∃m l,rs[a]?=Ac (Ac (m,l))/\q= .row u e' sz m l)\/q= .emp))->q.has b->False:=λ{j k r q} d g f c=>by
   rcases f with⟨_,rfl⟩|⟨a,u,_,o,⟨m,l,p,rfl⟩|rfl⟩;· exact d.1 (h.nd j i _ _ b d.2.2 hi g (.inl c))
   ·exact d.1 (h.nd j i _ _ b d.2.2 hi g (.inr ⟨a,u,m,l,o,p,c⟩))
   ·exact c.elim
  rcases key j r s with d|d
  ·rcases key k q G with f|f;· exact h.nd j k r q b d.2.2 f.2.2 g c
   ·exact(y d g f c).elim
  ·rcases key k q G with f|f;· exact(y f c d g).elim
   ·rcases d with⟨A,rfl⟩|⟨a,u,A,o,⟨m,l,p,rfl⟩|rfl⟩
    ·rcases f with⟨x,rfl⟩|⟨z,E,x,B,⟨D,t,C,rfl⟩|rfl⟩;· rw[A,x]
     ·exact absurd g (F.out z E D t b B C c)
     ·exact c.elim
    ·rcases f with⟨x,rfl⟩|⟨z,E,x,B,⟨D,t,C,rfl⟩|rfl⟩;· exact absurd c (F.out a u m l b o p g)
     ·rw[A,x,F.one a z u E m D l t b o p B C g c]
     ·exact c.elim
    ·exact g.elim
theorem SH.T2(D:i<O.length)(h:SH w H (O.set i (.row v e 1 n xs)++FW e' sz xs rs)):SH w H (O.set i (.Ck v e n xs e' sz rs)):=by
 have top:(O.set i (.row v e 1 n xs)++FW e' sz xs rs)[i]?=Ac (.row v e 1 n xs):=by rw[Pe (by simpa using D)];simp[D]
 have l:∀ {a:Nat} {u:BZ} {m:Nat} {t:List BZ},xs[a]?=Ac u->rs[a]?=Ac (Ac (m,t))->(O.set i (.row v e 1 n xs)++FW e' sz xs rs)[O.length+a]?=Ac (.row u e' sz m t):=λd f=>by rw[Aab (by simp)];simp only[Abp,Acr];exact Qp d f
 have o:∀ {j:Nat} {r:Ax},j≠i->O[j]?=Ac r->(O.set i (.row v e 1 n xs)++FW e' sz xs rs)[j]?=Ac r:=λ{j r} s y=>by have A:=(No.1 y).1;rw[Pe (by simpa using A),Aen,if_neg (λe=>s e.symm)];exact y
 have lt:∀ {j:Nat} {r:Ax},O[j]?=Ac r->j<O.length:=λy=>(No.1 y).1;refine⟨h.MW,h.os,h.output,h.tape,λj r s=>?_,λj r b s g=>?_,λj k r z b s C g c=>?_⟩
 ·rcases Cf s with⟨_,rfl⟩|⟨d,f⟩
  ·refine⟨h.ok i _ top,λa u m t d f=>h.ok _ _ (l d f),λa I u K m J t G b d f p q g c=>?_,λa u m t b d f g c=>?_⟩;· have:=h.nd _ _ _ _ b (l d f) (l p q) g c;omega
   ·have:=h.nd _ _ _ _ b top (l d f) c g;omega
  ·exact h.ok _ _ (o d f)
 ·rcases Cf s with⟨_,rfl⟩|⟨d,f⟩
  ·rcases g with g|⟨a,u,m,t,d,f,g⟩;· exact h.Iz _ _ b top g
   ·exact h.Iz _ _ b (l d f) g
  ·exact h.Iz _ _ b (o d f) g
 ·have x:∀ {k:Nat} {z:Ax},k≠i->O[k]?=Ac z->(Ax.Ck v e n xs e' sz rs).has b->z.has b->False:=λ{k z} d f g c=>by
   rcases g with g|⟨a,u,m,t,p,q,g⟩;· exact d (h.nd _ _ _ _ b (o d f) top c g)
   ·have:=h.nd _ _ _ _ b (o d f) (l p q) c g;have:=lt f;omega
  rcases Cf s with⟨E,rfl⟩|⟨d,f⟩
  ·rcases Cf C with⟨B,rfl⟩|⟨p,q⟩;· rw[E,B]
   ·exact(x p q g c).elim
  ·rcases Cf C with⟨B,rfl⟩|⟨p,q⟩;· exact(x d f c g).elim
   ·exact h.nd _ _ _ _ b (o d f) (o p q) g c
end
end
end Go.GK
namespace Go.GV
open Go Go.GK
inductive PX(T:Nat->Type)where
 |sub (i n:Nat) (t:Ty)
 |sf
 |dx (t:Ty) (x:List (t.den T))
 |any
 |ub
 |sd (m:Nat)
 |hc (n:Nat)
 |fo (i:Nat)
 |fi (i:Nat)
 |fe (i j:Nat) (t:Ty)
inductive SV(T:Nat->Type)where
 |d (t:Ty) (x:t.den T)
 |na (n:Nat)
 |ct (i n:Nat)
 |cb (i n:Nat)
 |lt (i n m:Nat)
 |lb (b:Bool)
 |raw (v:BZ)
 |ud
 |no
 |loc (k off:Nat)
 |AH (k:Nat)
 |Ec (k:Nat) (i:Int) (off:Nat) (t:Ty) (x:t.den T)
 |pd (t:Ty) (x:t.den T) (off:Nat)
 |mp (k:Nat)
 |lf (s:Nat) (a l:SV T)
 |nl
 |t2 (a b:SV T)
 |t3 (a b c:SV T)
 |AK (f:Nat) (l:SV T) (cs:List Nat)
 |vn
 |vc (a l:SV T)
 |px (ks:List Nat) (p:PX T)
 |Cv (j:Nat)
inductive SR(T:Nat->Type)where
 |Ah (g:Gs) (l:SV T)
 |row (g:Gs) (t:Ty) (l:List (t.den T))
 |Cv (j:Nat)
 |gone
 |map (g:Gs) (kt vt:Ty) (l:List (kt.den T×vt.den T))
 |Ck (g e:Gs) (t:Ty) (h:Nat) (l:List (Bool×List (t.den T)))
def Ay{α:Type} :List (Nat×α)->Nat->Option α
 | [],_=>C7
 |(k,v)::l,t=>match Hj k t with
  |true=>Ac v
  |false=>Ay l t
def SV.AJ{T:Nat->Type} :SV T->List Nat
 | .loc k _| .AH k| .Ec k _ _ _ _| .mp k=>[k]
 | .lf _ a l=>a.AJ++l.AJ
 | .t2 a b=>a.AJ++b.AJ
 | .t3 a b c=>a.AJ++(b.AJ++c.AJ)
 | .AK _ l e=>l.AJ++e
 | .vc a l=>a.AJ++l.AJ
 | .px g _=>g
 |_=>[]
def SR.AJ{T:Nat->Type} :SR T->List Nat
 | .Ah _ l=>l.AJ
 | .Ck _ _ _ h _=>[h]
 |_=>[]
abbrev Re:Nat:=9223372036854775807
section
variable {N : C9}
def CL(t:Ty)(cs:List BZ)(v:BZ):Prop:=match t.agg with
 |true=>v= .agg cs.toArray
 |false=>cs=[v]
def PX.is(us:List BZ)(H:Hp):PX N.T->BZ->Prop
 | .sub i n t,v=> ∃a m c,us=[.slice (Ac a) m c]/\i+n<=m/\v= .slice (Ac (a.add (i*t.sz N))) n n
 | .sf,v=>v= .pointer C7\/∃B,us=[ptr B 0]/\v=ptr B 0
 | .any,_=>True
 | .ub,v=> ∃b,v= .bool b
 | .sd m,v=>(∃p,v= .pointer p)/\(0<m->∃u,us=[u]/\v=AW u 0)
 | .fo i,v=> ∃a n c,us=[.slice (Ac a) n c]/\i<n/\v=AW (.slice (Ac a) n c) i
 | .fi i,v=> ∃d u,us=[.tuple d,u]/\d[i]?=Ac v
 | .fe i j t,v=> ∃d u x,us=[.tuple d,u]/\d[i]?=Ac x/\v=AW x (j*t.sz N)
 | .hc n,v=>n<=Re/\∃B,us=[ptr B 0]/\v= .slice (Ac ⟨B,0,C7⟩) n n
 | .dx t x,v=>(∃a,v= .slice a x.length x.length)/\∃e,(N.c (.sl t)).BO H x e/\CL (.sl t) e v
theorem PX.mono{us:List BZ}{H a:Hp}(f:H.le a):∀ {p:PX N.T} {v:BZ},p.is us H v->p.is us a v
 | .sub _ _ _,_,h=>h
 | .sf,_,h=>h
 | .any,_,h=>h
 | .ub,_,h=>h
 | .sd _,_,h=>h
 | .hc _,_,h=>h
 | .fo _,_,h=>h
 | .fi _,_,h=>h
 | .fe _ _ _,_,h=>h
 | .dx t x,v,⟨c,b,d,e⟩=>⟨c,b,(N.c (.sl t)).mono f d,e⟩
def SV.BS(g:Nat->BZ->Prop)(η:Nat->BZ)(H:Hp):SV N.T->BZ->Prop
 | .d t x,v=> ∃h,(N.c t).BO H x h/\CL t h v
 | .na n,v=>v= .int .i64 n/\n<=Re
 | .ct _ n,v=>v= .int .i64 n/\n<=Re
 | .cb _ n,v=>v= .int .i64 n/\n<Re
 | .lt _ n m,v=>v= .bool (Di ((n:Int)<(m:Int)))/\m<=Re
 | .lb b,v=>v= .bool b
 | .raw u,v=>v=u
 | .ud,v=>v=undef
 | .no,_=>True
 | .loc k off,v=> ∃B,η k=ptr B 0/\v=ptr B off
 | .AH k,v=>v=η k/\v.oneCell'=Bp
 | .Ec k i off t _,v=>v=AW (η k) (i.toNat*t.sz N+off)/\∃a n c,η k= .slice (Ac a) n c
 | .pd t x off,v=> ∃(a:Addr) (k:Nat) (h:List BZ),v= .pointer (Ac (a.add (k+off)))/\(N.c t).BO H x h/\∀j u,h[j]?=Ac u->DV H (.pointer (Ac (a.add (k+j)))) u
 | .mp k,v=>v=η k/\v.oneCell'=Bp
 | .lf s a l,v=> ∃q w u,v= .agg (q++w).toArray/\q.length=s/\a.BS g η H u/\u.cells.toList=q/\(∀x∈q,x.oneCell'=Bp)/\l.BS g η H (.agg w.toArray)
 | .nl,v=>v= .agg #[]
 | .t2 a b,v=> ∃x y,v= .tuple #[x,y]/\a.BS g η H x/\b.BS g η H y
 | .t3 a b c,v=> ∃x y z,v= .tuple #[x,y,z]/\a.BS g η H x/\b.BS g η H y/\c.BS g η H z
 | .AK f l h,v=> ∃o:List BZ,v= .func (.func f) o.toArray (h.map η).toArray/\l.BS g η H (.tuple o.toArray)
 | .vn,v=>v= .tuple #[]
 | .vc a l,v=> ∃(u:BZ) (o:List BZ),v= .tuple (u::o).toArray/\a.BS g η H u/\l.BS g η H (.tuple o.toArray)
 | .px E p,v=>p.is (E.map η) H v
 | .Cv j,v=>g j v
def SV.is(C:List (SV N.T))(η:Nat->BZ)(H:Hp):SV N.T->BZ->Prop:=SV.BS (λj v=> ∃s,C[j]?=Ac s/\SV.BS (λ_ _=>False) η H s v) η H
section
variable{H:Hp}
theorem SV.BS.imp{g p:Nat->BZ->Prop}{η:Nat->BZ}{H:Hp}(e:∀j v,g j v->p j v):∀ {s:SV N.T} {v:BZ},s.BS g η H v->s.BS p η H v
 | .d t x,v,h=>h
 | .na _,_,h=>h
 | .ct _ _,_,h=>h
 | .cb _ _,_,h=>h
 | .lt _ _ _,_,h=>h
 | .lb _,_,h=>h
 | .raw _,_,h=>h
 | .ud,_,h=>h
 | .no,_,h=>h
 | .loc _ _,_,h=>h
 | .AH _,_,h=>h
 | .Ec _ _ _ _ _,_,h=>h
 | .pd t x off,v,h=>h
 | .mp _,_,h=>h
 | .lf s a l,v,⟨q,r,u,i,k,m,n,B,C⟩=>⟨q,r,u,i,k,SV.BS.imp e m,n,B,SV.BS.imp e C⟩
 | .nl,_,h=>h
 | .t2 a b,v,⟨x,y,i,k,m⟩=>⟨x,y,i,SV.BS.imp e k,SV.BS.imp e m⟩
 | .t3 a b c,v,⟨x,y,z,i,k,m,n⟩=>⟨x,y,z,i,SV.BS.imp e k,SV.BS.imp e m,SV.BS.imp e n⟩
 | .AK f l J,v,⟨o,i,k⟩=>⟨o,i,SV.BS.imp e k⟩
 | .vn,_,h=>h
 | .vc a l,v,⟨u,o,i,k,m⟩=>⟨u,o,i,SV.BS.imp e k,SV.BS.imp e m⟩
 | .px _ _,_,h=>h
 | .Cv j,v,h=>e j v h
def Ev(a:Ty)(H:Hp){κ:Type} :List (κ×a.den N.T)->List (κ×BZ)->Prop
 | [],[]=>True
 |p::l,q::m=>p.1=q.1/\(∃b,(N.c a).BO H p.2 b/\CL a b q.2)/\Ev a H l m
 |_,_=>False
theorem Ev.mono{a:Ty}{H b:Hp}(c:H.le b){κ:Type} :∀ {l:List (κ×a.den N.T)} {m:List (κ×BZ)},Ev a H l m->Ev a b l m
 | [],[],h=>h
 |p::l,q::m,⟨e,⟨d,f,g⟩,i⟩=>⟨e,⟨d,(N.c a).mono c f,g⟩,Ev.mono c i⟩
 | [],_::_,h=>h.elim
 |_::_,[],h=>h.elim
def R4(H:Hp)(B:Nat)(g:Gs)(b:Ty):(c:Ty)->List (c.den N.T×b.den N.T)->Ax->Prop
 | .str,l,r=> ∃(P:GQ) (K:NZ P g Aq) (a:List (Aq×BZ)),N.prog=Ac P/\(∀x,K.val x=sv x)/\(∀x,x.length<=Ai->K.ok x)/\r=Ks K B a/\Ev (κ:=Aq) b H l a
 | .int .i64,l,r=> ∃(P:GQ) (K:NZ P g Int) (a:List (Int×BZ)),N.prog=Ac P/\(∀x,K.val x= .int .i64 x)/\(∀x,DW x->K.ok x)/\r=Ks K B a/\Ev (κ:=Int) b H l a
 | .st (.pr (.int .i64) (.int .i64)),l,r=> ∃(P:GQ) (K:NZ P g (Int×Int)) (a:List ((Int×Int)×BZ)),N.prog=Ac P/\(∀x,K.val x= .agg #[.int .i64 x.1, .int .i64 x.2])/\(∀x,DW x.1/\DW x.2->K.ok x)/\r=Ks K B a/\Ev (κ:=Int×Int) b H l a
 |_,_,_=>False
theorem R4.mono{m:Hp}(i:H.le m){B:Nat}{g:Gs}{k j:Ty}{l:List (j.den N.T×k.den N.T)}{r:Ax}(h:R4 H B g k j l r):R4 m B g k j l r:=by
 unfold R4 at h;split at h;· obtain⟨P,K,f,a,b,c,d,e⟩:=h;exact⟨P,K,f,a,b,c,d,e.mono i⟩
 ·obtain⟨P,K,f,a,b,c,d,e⟩:=h;exact⟨P,K,f,a,b,c,d,e.mono i⟩
 ·obtain⟨P,K,f,a,b,c,d,e⟩:=h;exact⟨P,K,f,a,b,c,d,e.mono i⟩
 grind
structure N0{α:Type}(c:Cd α)(H:Hp)(l:List (Bool×List α))(xs:List BZ)(rs:List (Option (Nat×List BZ))):Prop where
 len:xs.length=l.length
 PI:rs.length=l.length
 own:∀(i:Nat) (d:List α),l[i]?=Ac (Bp,d)->∃ys,rs[i]?=Ac (Ac (d.length,ys))/\A2 c H d ys
 not:∀(i:Nat) (d:List α),l[i]?=Ac (Aj,d)->rs[i]?=Ac C7
theorem N0.mono{α:Type}{c:Cd α}{a:Hp}(g:H.le a){l:List (Bool×List α)}{xs:List BZ}{rs:List (Option (Nat×List BZ))}(h:N0 c H l xs rs):N0 c a l xs rs:=
 ⟨h.len,h.PI,λi d f=>by obtain⟨j,b,e⟩:=h.own i d f;exact⟨j,b,e.mono g⟩,h.not⟩
def SR.is(C:List (SV N.T))(η:Nat->BZ)(H:Hp)(k:Nat):SR N.T->Ax->Prop
 | .Ah g l,r=> ∃B b,η k=ptr B 0/\r= .Ah B (.cells b g (0,0))/\l.is C η H (.agg b)
 | .row g t l,r=> ∃a,r= .row (η k) g (t.sz N) l.length a/\A2 (N.c t) H l a
 | .Cv _,_=>False
 | .gone,_=>False
 | .map g f i l,r=> ∃B,η k= .map (Ac B)/\R4 H B g i f l r
 | .Ck g e t h l,r=> ∃a c,r= .Ck (η k) g l.length a e (t.sz N) c/\η h= .tuple a.toArray/\N0 (N.c t) H l a c
end
section
variable{η:Nat->BZ}{H:Hp}{T:Nat->Type}{C:List (SV N.T)}{η':Nat->BZ}{k:Nat}{r:Ax}{s:SV N.T}{v:BZ}
theorem SV.BS.mono{g:Nat->BZ->Prop}{η:Nat->BZ}{H r:Hp}(e:H.le r):∀ {s:SV N.T} {v:BZ},s.BS g η H v->s.BS g η r v
 | .d t x,v,⟨o,i,m⟩=>⟨o,(N.c t).mono e i,m⟩
 | .na _,_,h=>h
 | .ct _ _,_,h=>h
 | .cb _ _,_,h=>h
 | .lt _ _ _,_,h=>h
 | .lb _,_,h=>h
 | .raw _,_,h=>h
 | .ud,_,h=>h
 | .no,_,h=>h
 | .loc _ _,_,h=>h
 | .AH _,_,h=>h
 | .Ec _ _ _ _ _,_,h=>h
 | .pd t x off,v,⟨b,k,o,i,m,n⟩=>⟨b,k,o,i,(N.c t).mono e m,λj u G=>(n j u G).mono e⟩
 | .mp _,_,h=>h
 | .lf s a l,v,⟨w,A,u,i,m,n,p,D,E⟩=>⟨w,A,u,i,m,SV.BS.mono e n,p,D,SV.BS.mono e E⟩
 | .nl,_,h=>h
 | .t2 a b,v,⟨x,y,i,m,n⟩=>⟨x,y,i,SV.BS.mono e m,SV.BS.mono e n⟩
 | .t3 a b c,v,⟨x,y,z,i,m,n,p⟩=>⟨x,y,z,i,SV.BS.mono e m,SV.BS.mono e n,SV.BS.mono e p⟩
 | .AK f l o,v,⟨q,i,m⟩=>⟨q,i,SV.BS.mono e m⟩
 | .vn,_,h=>h
 | .vc a l,v,⟨u,q,i,m,n⟩=>⟨u,q,i,SV.BS.mono e m,SV.BS.mono e n⟩
 | .px _ _,_,h=>PX.mono e h
 | .Cv _,_,h=>h
theorem SV.is.mono{a:Hp}(b:H.le a)(h:s.is C η H v):s.is C η a v:=SV.BS.imp (λ_ _ ⟨s,e,h⟩=>⟨s,e,SV.BS.mono b h⟩) (SV.BS.mono b h)
theorem SV.BS.env{g:Nat->BZ->Prop}{η η':Nat->BZ}{H:Hp} :∀ {s:SV N.T} {v:BZ},(∀k∈s.AJ,η' k=η k)->s.BS g η H v->s.BS g η' H v
 | .d t x,v,_,h=>h
 | .na _,_,_,h=>h
 | .ct _ _,_,_,h=>h
 | .cb _ _,_,_,h=>h
 | .lt _ _ _,_,_,h=>h
 | .lb _,_,_,h=>h
 | .raw _,_,_,h=>h
 | .ud,_,_,h=>h
 | .no,_,_,h=>h
 | .loc k _,_,e,h=>by grind[SV.BS,SV.AJ]
 | .AH k,_,e,h=>by grind[SV.BS,SV.AJ]
 | .Ec k _ _ _ _,_,e,h=>by grind[SV.BS,SV.AJ]
 | .pd t x off,v,_,h=>h
 | .mp k,_,e,h=>by grind[SV.BS,SV.AJ]
 | .lf s a l,v,e,⟨w,A,u,j,m,n,o,E,F⟩=>⟨w,A,u,j,m,SV.BS.env (λk i=>e k (by grind[SV.AJ])) n,o,E,SV.BS.env (λk i=>e k (by grind[SV.AJ])) F⟩
 | .nl,_,_,h=>h
 | .t2 a b,v,e,⟨x,y,j,m,n⟩=>⟨x,y,j,SV.BS.env (λk i=>e k (by grind[SV.AJ])) m,SV.BS.env (λk i=>e k (by grind[SV.AJ])) n⟩
 | .t3 a b c,v,e,⟨x,y,z,j,m,n,o⟩=>⟨x,y,z,j,SV.BS.env (λk i=>e k (by grind[SV.AJ])) m,SV.BS.env (λk i=>e k (by grind[SV.AJ])) n,SV.BS.env (λk i=>e k (by grind[SV.AJ])) o⟩
 | .AK f l M,v,e,⟨r,j,m⟩=>⟨r,by simp_all[SV.AJ],SV.BS.env (λk i=>e k (by grind[SV.AJ])) m⟩
 | .vn,_,_,h=>h
 | .vc a l,v,e,⟨u,r,j,m,n⟩=>⟨u,r,j,SV.BS.env (λk i=>e k (by grind[SV.AJ])) m,SV.BS.env (λk i=>e k (by grind[SV.AJ])) n⟩
 | .px q p,v,e,h=>by have D:q.map η'=q.map η:=Abr λk i=>e k (by trivial);show p.is (q.map η') H v;rw[D];exact h
 | .Cv _,_,_,h=>h
def CV{T:Nat->Type}(C:List (SV T)):List Nat:=C.flatMap SV.AJ
theorem XT{C:List (SV T)}{j:Nat}{s:SV T}(a:C[j]?=Ac s)(h:k∈s.AJ):k∈CV C:=Aad.2 ⟨s,Aai a,h⟩
theorem SV.is.env(a:∀k∈CV C,η' k=η k)(c:∀k∈s.AJ,η' k=η k)(h:s.is C η H v):s.is C η' H v:=
 SV.BS.imp (λ_ _ ⟨s,e,h⟩=>⟨s,e,SV.BS.env (λk b=>a k (XT e b)) h⟩) (SV.BS.env c h)
theorem SR.is.mono{i:Hp}(c:H.le i){s:SR N.T}(h:s.is C η H k r):s.is C η i k r:=by
 cases s with
 |Ah g l=>obtain⟨B,m,a,b,d⟩:=h;exact⟨B,m,a,b,d.mono c⟩
 |row g t l=>obtain⟨f,a,b⟩:=h;exact⟨f,a,b.mono c⟩
 |Cv j=>exact h
 |gone=>exact h
 |map g q u l=>obtain⟨B,a,b⟩:=h;exact⟨B,a,b.mono c⟩
 |Ck g e t p l=>obtain⟨f,o,a,b,d⟩:=h;exact⟨f,o,a,b,d.mono c⟩
theorem SR.is.env{s:SR N.T}(c:η' k=η k)(n:∀k∈CV C,η' k=η k)(e:∀k∈s.AJ,η' k=η k)(h:s.is C η H k r):s.is C η' H k r:=by
 cases s with
 |Ah g l=>obtain⟨B,i,a,b,d⟩:=h;exact⟨B,i,c.trans a,b,d.env n e⟩
 |row g t l=>obtain⟨f,a,b⟩:=h;exact⟨f,by grind,b⟩
 |Cv j=>exact h
 |gone=>exact h
 |map g u v l=>obtain⟨B,a,b⟩:=h;exact⟨B,c.trans a,b⟩
 |Ck g q t o l=>obtain⟨f,p,a,b,d⟩:=h;exact⟨f,p,by grind,(e o (by simp[SR.AJ])).trans b,d⟩
structure St(T:Nat->Type)where
 L:List (Nat×SV T)
 O:List (Nat×SR T)
 nk:Nat
structure Bx(T:Nat->Type)where
 sv:SV T
 rd:List Nat
 wr:List (Nat×SR T)
def res{T:Nat->Type}(C:List (SV T)):SV T->SV T
 | .Cv j=>C.getD j .no
 |s=>s
def Cu(C:List (SV T))(L:List (Nat×SV T))(t:Nat):SV T:=match Ay L t with
 |some s=>res C s
 |none=> .no
def ofConst:BZ->SV T
 | .bool b=> .lb b
 |v=> .raw v
def Aw(S:Nat->SV T):Dn->SV T
 | .tmp t=>S t
 | .const v=>ofConst v
 | .global _=> .no
 | .func f=> .AK f .vn []
theorem Uq(v:BZ):(ofConst (T:=N.T) v).is C η H v:=by unfold ofConst;split<;>simp[SV.is,SV.BS]
theorem EU{C:List (SV N.T)}{η:Nat->BZ}{H:Hp}{s:SV N.T}{v:BZ}(h:s.is C η H v):(res C s).is C η H v:=by
 unfold res;split;· obtain⟨s,e,h⟩:=h;rw[Aae,e];exact SV.BS.imp (λ_ _ h=>h.elim) h
 omega
theorem cc{S:Nat->SV N.T}{a:Act}{x:Dn}(h:∀t,x= .tmp t->(S t).is C η H (a.tmps.getD t undef)):(Aw S x).is C η H (a.eval x):=by
 cases x with
 |tmp t=>exact h t rfl
 |const v=>exact Uq v
 |global g=>trivial
 |func f=>exact⟨[],rfl,rfl⟩
end
end
section
variable{k:Nat}{Y:List (Nat×Ax)}{r x:Ax}
def keys{α:Type}(Y:List (Nat×α)):List Nat:=Y.map (·.1)
theorem A4{α:Type}{Y:List (Nat×α)}{k:Nat}{x:α}(h:Ay Y k=Ac x):(k,x)∈Y:=by
 induction Y with
 |nil=>cases h
 |cons p Y b=>
  grind[Ay,ba,List.mem_cons_of_mem]
theorem Cz{α:Type}{Y:List (Nat×α)}{k:Nat}(h:k∉keys Y):Ay Y k=C7:=by
 cases a:Ay Y k with
 |none=>rfl
 |some x=>exact absurd (By.2 ⟨_,A4 a,rfl⟩) h
theorem Dp{α:Type}{Y:List (Nat×α)}{k:Nat}{x:α}(h:Ay Y k=Ac x):k∈keys Y:=By.2 ⟨_,A4 h,rfl⟩
theorem Du{α:Type}{Y:List (Nat×α)}(h:k∈keys Y):∃x,Ay Y k=Ac x:=by
 induction Y with
 |nil=>cases h
 |cons p Y b=>
  obtain⟨q,y⟩:=p;simp only[keys,Aas,Aav]at h;simp only[Ay];cases a:Hj q k with
  |true=>simp
  |false=>
   rcases h with e|h;· simp_all
   ·exact b h
theorem CK{α:Type}{Y:List (Nat×α)}(b:(keys Y).Nodup){k:Nat}{x:α}(h:(k,x)∈Y):Ay Y k=Ac x:=by
 induction Y with
 |nil=>grind
 |cons p Y f=>
  obtain⟨q,y⟩:=p;simp only[keys,Aas,Aay]at b;simp only[Ay];rcases Aav.1 h with e|h;· simp_all
  ·have:Hj q k=Aj:=by
    grind[Hj,absurd,ba]
   rw[this];exact f b.2 h
theorem BT{α:Type}(A B:List (Nat×α))(k:Nat):Ay (A++B) k=match Ay A k with|some x=>Ac x|none=>Ay B k:=by
 induction A with
 |nil=>rfl
 |cons p A a=>
  grind[Ay]
theorem CF{α:Type}(k:Nat)(v:α)(l:List (Nat×α)):Ay ((k,v)::l) k=Ac v:=by simp[Ay]
theorem A3{α:Type}{q k:Nat}(h:q≠k)(v:α)(l:List (Nat×α)):Ay ((q,v)::l) k=Ay l k:=by grind[Hj,absurd,Ay,ba]
def Ik(Y:List (Nat×Ax))(k:Nat)(r:Ax):List (Nat×Ax):=Y.map λp=>(p.1,match Hj p.1 k with|true=>r|false=>p.2)
theorem EM(Y:List (Nat×Ax))(k:Nat)(r:Ax):keys (Ik Y k r)=keys Y:=by simp[keys,Ik]
theorem Rc(h:Ay Y k=Ac x):Ay (Ik Y k r) k=Ac r:=by
 induction Y with
 |nil=>cases h
 |cons p Y b=>
  grind[Ik,Ay,Hj]
theorem Pu{j:Nat}(h:j≠k):Ay (Ik Y k r) j=Ay Y j:=by
 induction Y with
 |nil=>rfl
 |cons p Y b=>
  grind[Ik,Ay,Hj,absurd,ba]
theorem Jk(Of:List Ax)(c:(keys Y).Nodup)(h:Ay Y k=Ac x):∃i,(Y.map (·.2)++Of)[i]?=Ac x/\∀r,(Y.map (·.2)++Of).set i r=(Ik Y k r).map (·.2)++Of:=by
 induction Y with
 |nil=>cases h
 |cons p Y g=>
  obtain⟨q,y⟩:=p;simp only[Ay]at h;simp only[keys,Aas,Aay]at c;cases a:Hj q k with
  |true=>
   rw[a]at h;cases h;have:=AI a;refine⟨0,rfl,λr=>?_⟩;simp only[Aas,Afh,Ahs,Ik,Agk];grind[Hj,absurd,List.map_map,Alv,ba]
  |false=>
   rw[a]at h;obtain⟨i,d,e⟩:=g c.2 h;refine⟨i+1,by simpa using d,λr=>?_⟩;grind[Ik]
end
section
variable {N : C9} {C : List (SV N.T)}
section
variable{P:GQ}{S:Nat->SV N.T}{R:Nat->Option (SR N.T)}{o:K_}{k:Nat}
def DU(C:List (SV N.T))(η:Nat->BZ)(H:Hp)(Y:List (Nat×Ax))(k:Nat)(a:SR N.T):Prop:=a= .gone\/∃x,Ay Y k=Ac x/\a.is C η H k x
def Ap(P:GQ)(C:List (SV N.T))(S:Nat->SV N.T)(R:Nat->Option (SR N.T))(o:K_)(s:Bx N.T):Prop:= ∀(η:Nat->BZ) (H:Hp) (g:List Ax) (a:Act) (w:IW) (Y:List (Nat×Ax)),(keys Y).Nodup->SH w H (Y.map (·.2)++g)->N.inv H->(∀x∈o.op.operands,(Aw S x).is C η H (a.eval x))->(∀k,(k∈s.rd\/k∈keys s.wr)->∀e,R k=Ac e->DU C η H Y k e)->(∀k∈keys s.wr,R k=C7->k∉keys Y)->∀(K:Act->IW->Prop) (Q:Exit->Act->IW->Prop),(∀(v:BZ) (h:IW) (f:Hp) (c:Nat->BZ) (d:List (Nat×Ax)),H.le f->(∀k,(R k=C7->k∉keys s.wr)->c k=η k)->(∀k,k∉keys s.wr->Ay d k=Ay Y k)->(∀k e,Ay s.wr k=Ac e->DU C c f d k e)->(keys d).Nodup->(∀k∈keys d,k∈keys Y\/k∈keys s.wr)->SH h f (d.map (·.2)++g)->s.sv.is C c f v->K (a.put o.dst v) h)->o.wp P a w K Q
abbrev EV(a:Act):Dn->Option BZ:=λx=>Ac (a.eval x)
theorem Abu{sv:SV N.T}{m:List Nat}
  (h:∀(η:Nat->BZ) (H:Hp) (O:List Ax) (a:Act),(∀x∈o.op.operands,(Aw S x).is C η H (a.eval x))->(∀k∈m,∀b,R k=Ac b->b= .gone\/∃(x:Ax) (i:Nat),O[i]?=Ac x/\b.is C η H k x)->∃v,Au P o.op o.type (EV a) H O v/\sv.is C η H v):
  Ap P C S R o ⟨sv,m,[]⟩:=by
 intro η H g a w Y j l B z y _ K Q t;obtain⟨v,r,s⟩:=h η H (Y.map (·.2)++g) a z λk c b d=>(y k (.inl c) b d).imp id λ⟨x,n,p⟩=>by obtain⟨i,q,_⟩:=Jk g j n;grind
 refine Aet (r a w o rfl rfl (λx u e=>by grind) l) l λA f=>?_;exact t v A H η Y (Hp.le.refl H) (λ_ _=>rfl) (λ_ _=>rfl) (λk b h=>by cases h) j (λk c=> .inl c) f s
theorem Afv{sv:SV N.T}{t:List Nat}{g y:SR N.T}(J:R k=Ac g)(h0:g≠ .gone)
  (h:∀(η:Nat->BZ) (H:Hp) (O:List Ax) (a:Act) (x:Ax) (i:Nat),(∀x∈o.op.operands,(Aw S x).is C η H (a.eval x))->O[i]?=Ac x->g.is C η H k x->(∀k∈t,∀c,R k=Ac c->c= .gone\/∃(x:Ax) (i:Nat),O[i]?=Ac x/\c.is C η H k x)->
   ∃f,y.is C η H k f/\BM P o.op o.type (EV a) H O (λv l q=>l=H/\q=O.set i f/\sv.is C η H v)):
  Ap P C S R o ⟨sv,t,[(k,y)]⟩:=by
 intro η H m a w Y n M hi T s _ K Q G;rcases s k (.inr (by simp[keys])) g J with e|⟨x,r,D⟩;· trivial
 obtain⟨i,E,F⟩:=Jk m n r;obtain⟨f,U,V⟩:=h η H (Y.map (·.2)++m) a x i T E D λj b c p=>(s j (.inl b) c p).imp id λ⟨x,W,X⟩=>by obtain⟨i,Z,_⟩:=Jk m n W;exact⟨x,i,Z,X⟩
 refine V a w o K Q rfl rfl (λx u e=>by simpa using e) M λv w' l q L ⟨z,A,B⟩ d=>?_;subst z;subst A;rw[F]at d;refine G v w' l η (Ik Y k f) (Hp.le.refl _) (λ_ _=>rfl) (λj b=>Pu λe=>b (by subst e;simp[keys])) (λj c b=>?_) (by rw[EM];exact n) (λj b=> .inl (by rw[EM]at b;exact b)) d B;simp only[Ay]at b;split at b;· rename_i I;have:=AI I;subst this;cases b;exact .inr ⟨f,Rc r,U⟩
 grind
def EA(η:Nat->BZ)(k:Nat)(v:BZ):Nat->BZ:=λj=>match Hj j k with
 |true=>v
 |false=>η j
theorem AA(η:Nat->BZ)(k:Nat)(v:BZ):EA η k v k=v:=by simp[EA]
theorem EH{η:Nat->BZ}{j:Nat}{v:BZ}(h:j≠k):EA η k v j=η j:=by grind[EA,Hj,absurd,ba]
theorem Afd{sv:SV N.T}{y:List Nat}{z:SR N.T}(s:R k=C7)
  (h:∀(η:Nat->BZ) (H:Hp) (O:List Ax) (a:Act),(∀x∈o.op.operands,(Aw S x).is C η H (a.eval x))->(∀k∈y,∀f,R k=Ac f->f= .gone\/∃(x:Ax) (i:Nat),O[i]?=Ac x/\f.is C η H k x)->
   BM P o.op o.type (EV a) H O (λv l q=>l=H/\∃g b,q=g::O/\z.is C (EA η k b) H k g/\sv.is C (EA η k b) H v)):
  Ap P C S R o ⟨sv,y,[(k,z)]⟩:=by
 intro η H r a w Y t L X M J d K Q F;have m:=d k (by simp[keys]) s;refine h η H (Y.map (·.2)++r) a M (λj c f n=>(J j (.inl c) f n).imp id λ⟨x,T,U⟩=>by obtain⟨i,V,_⟩:=Jk r t T;grind) a w o K Q rfl rfl (λx u e=>by grind) L λv W l q I ⟨A,g,b,B,D,E⟩ p=>?_;subst A;subst B;refine F v W l (EA η k b) ((k,g)::Y) (Hp.le.refl _) (λj c=>EH λe=>?_) (λj c=>A3 (λe=>c (by subst e;simp[keys])) _ _) (λj f c=>?_) (Aay.2 ⟨m,t⟩) (λj c=>?_) p E;· subst e;exact c s (by simp[keys])
 ·simp only[Ay]at c;split at c;· rename_i G;have:=AI G;subst this;cases c;exact .inr ⟨g,CF _ _ _,D⟩
  ·cases c
 grind[keys]
end
end
def PA(P:GQ)(t:Gs)(n:Nat):Bool:=match P.info? t with
 |some i=>Hj i.size n&&i.zero.isSome
 |none=>Aj
theorem Ds{P:GQ}{t:Gs}{n:Nat}(h:PA P t n=Bp):∃bytes z,TI P t n bytes z:=by
 unfold PA at h;split at h;· rename_i i a;simp only[AT]at h;obtain⟨z,b⟩:=Abk.1 h.2;exact⟨i.bytes,z,i,a,AI h.1,rfl,b⟩
 grind
def q8(k:Lr)(n:Int):Bool:=match k with
 | .i64=>Bp
 | .u8=>Di (0<=n)&&Di (n<=255)
 |k=>Di (k.min<=n)&&Di (n<=k.max)
theorem bY{k:Lr}{n:Int}(h:q8 k n=Bp):UP k n:=by cases k<;>simp_all [q8,UP]
def Zn:List BZ->Bool
 | .int .u64 a:: .int .u64 b:: .int .u64 c:: .int .u64 d::_=>Di (a=0)&&Di (b=0)&&Di (c=0)&&Di (d=0)
 |_=>Aj
def Qu(T:Nat->Type)(a b:Ty):Option (a.den T->b.den T):=if h:a.JR b=Bp then Ac (Tg h)else C7
theorem BB{T:Nat->Type}{a b:Ty}{f:a.den T->b.den T}(h:Qu T a b=Ac f):∃h:a.JR b=Bp,f=Tg h:=by grind[Qu]
def rep{α:Type}(p:List BZ->Option (α×List BZ)):Nat->List BZ->Option (List α×List BZ)
 |0,a=>Ac ([],a)
 |n+1,a=>match p a with
  |some (x,r)=>match rep p n r with
   |some (l,r)=>Ac (x::l,r)
   |none=>C7
  |none=>C7
section
variable (N : C9)
def parse:Nat->(t:Ty)->List BZ->Option (t.den N.T×List BZ)
 |0,_,_=>C7
 |d+1,t,c=>match t with
  | .int k=>match c with
   | .int e n::r=>match kb k e&&q8 k n with
    |true=>Ac (n,r)
    |false=>C7
   |_=>C7
  | .bool=>match c with
   | .bool b::r=>Ac (b,r)
   |_=>C7
  | .str=>match c with
   | .string s::r=>Ac (s.data.toList,r)
   |_=>C7
  | .sl _=>match c with
   | .slice C7 0 0::r=>Ac ([],r)
   |_=>C7
  | .st a=>parse d a c
  | .pr a b=>match parse d a c with
   |some (x,r)=>match parse d b r with
    |some (y,r)=>Ac ((x,y),r)
    |none=>C7
   |none=>C7
  | .un=>Ac ((),c)
  | .bs=>match Zn c with
   |true=>Ac (λ_=>Aj,c.drop 4)
   |false=>C7
  | .nm i=>match parse d (N.body i) c with
   |some (x,r)=>Ac (N.wX i x,r)
   |none=>C7
  | .ar n a=>rep (parse d a) n c
def Fj:Nat->(t:Ty)->t.den N.T->Nat->(ty:Ty)->Option (ty.den N.T)
 |0,_,_,_,_=>C7
 |c+1,t,x,off,ty=>
  match Qu N.T t ty with
  |some f=>(match Hj off 0 with
   |true=>Ac (f x)
   |false=>C7)
  |none=>match t,x with
   | .st a,x=>Fj c a x off ty
   | .pr a b,x=>match bg off (a.sz N)with
    |true=>Fj c a x.1 off ty
    |false=>Fj c b x.2 (off-a.sz N) ty
   | .nm i,x=>Fj c (N.body i) (N.out i x) off ty
   | .ar _ a,x=>match(show List (a.den N.T)from x)[off/a.sz N]? with
    |some y=>Fj c a y (off %a.sz N) ty
    |none=>C7
   |_,_=>C7
def setAt:Nat->(t:Ty)->t.den N.T->Nat->(ty:Ty)->ty.den N.T->Option (t.den N.T)
 |0,_,_,_,_,_=>C7
 |c+1,t,x,off,ty,y=>
  match Qu N.T ty t with
  |some f=>(match Hj off 0 with
   |true=>Ac (f y)
   |false=>C7)
  |none=>match t,x with
   | .st a,x=>setAt c a x off ty y
   | .pr a b,x=>match bg off (a.sz N)with
    |true=>(setAt c a x.1 off ty y).map λz=>(z,x.2)
    |false=>(setAt c b x.2 (off-a.sz N) ty y).map λz=>(x.1,z)
   | .nm i,x=>(setAt c (N.body i) (N.out i x) off ty y).map (N.wX i)
   | .ar _ a,x=>match(show List (a.den N.T)from x)[off/a.sz N]? with
    |some z=>(setAt c a z (off %a.sz N) ty y).map λz=>List.set (show List (a.den N.T)from x) (off/a.sz N) z
    |none=>C7
   |_,_=>C7
def fj:(t:Ty)->SV N.T->Option (t.den N.T)
 |t, .d a x=>(Qu N.T a t).map (· x)
 | .int .i64, .na n=>Ac (n:Int)
 | .int .i64, .ct _ n=>Ac (n:Int)
 | .int .i64, .cb _ n=>Ac (n:Int)
 | .bool, .lb b=>Ac b
 | .bool, .lt _ n m=>Ac (Di ((n:Int)<(m:Int)))
 |t, .px _ (.dx a l)=>(Qu N.T (.sl a) t).map λf=>f l
 |t, .raw v=>match parse N 16 t v.cells.toList with
  |some (x,[])=>(match t.agg,v with
   |true, .agg _=>Ac x
   |true,_=>C7
   |false, .agg _=>C7
   |false,_=>Ac x)
  |_=>C7
 |_,_=>C7
variable {N}
section
variable{cs:List BZ}
theorem Zm(h:Zn cs=Bp):cs=(Pj (λ_=>Aj)).toList++cs.drop 4:=by
 unfold Zn at h;split at h
 ·simp only[AT,decide_eq_true_eq]at h;obtain⟨⟨⟨rfl,rfl⟩,rfl⟩,rfl⟩:=h;have b:∀i,word (λ_=>Aj) i=0#64:=λi=>by
   apply Alp;grind[Jb]
  have:(Pj (λ_=>Aj)).toList=[K3 (word (λ_=>Aj) 0),K3 (word (λ_=>Aj) 1),K3 (word (λ_=>Aj) 2),K3 (word (λ_=>Aj) 3)]:=rfl;rw[this,b,b,b,b];rfl
 grind
theorem CE{H:Hp} :∀ {fu:Nat} {t:Ty} {cs r:List BZ} {x:t.den N.T},parse N fu t cs=Ac (x,r)->∃pre,cs=pre++r/\(N.c t).BO H x pre
 |0,_,_,_,_,h=>by cases h
 |fu+1, .int k,cs,r,x,h=>by
  simp only[parse]at h;split at h
  ·split at h;· rename_i o;simp only[AT]at o;cases h;have:=OO o.1;subst this;exact⟨[_],rfl,D4.2 ⟨rfl,bY o.2⟩⟩
   grind
  grind
 |fu+1, .bool,cs,r,x,h=>by
  simp only[parse]at h;split at h;· cases h;exact⟨[_],rfl,rfl⟩
  grind
 |fu+1, .str,cs,r,x,h=>by
  simp only[parse]at h;split at h;· cases h;exact⟨[_],rfl,rfl⟩
  grind
 |fu+1, .sl _,cs,r,x,h=>by
  simp only[parse]at h;split at h;· cases h;exact⟨[_],rfl,_,rfl,G8.nil⟩
  grind
 |fu+1, .st a,cs,r,x,h=>CE (fu:=fu) (t:=a) (by trivial)
 |fu+1, .pr a b,cs,r,x,h=>by
  simp only[parse]at h;split at h
  ·rename_i y u f;split at h;· rename_i z s j;cases h;obtain⟨p,rfl,c⟩:=CE (H:=H) f;obtain⟨q,rfl,d⟩:=CE (H:=H) j;exact⟨p++q,by simp,p,q,rfl,c,d⟩
   grind
  grind
 |fu+1, .un,cs,r,x,h=>by cases h;exact⟨[],rfl,rfl⟩
 |fu+1, .bs,cs,r,x,h=>by
  simp only[parse]at h;split at h;· rename_i B;cases h;exact⟨_,Zm B,rfl⟩
  grind
 |fu+1, .nm i,cs,r,x,h=>by
  simp only[parse]at h;split at h;· rename_i y u f;cases h;obtain⟨p,e,c⟩:=CE (H:=H) f;exact⟨p,e,N.lay.2 (by rw[N.LM];omega)⟩
  grind
 |fu+1, .ar n a,cs,r,x,h=>by
  have key:∀(m:Nat) (cs:List BZ) (l:List (a.den N.T)) (r:List BZ),rep (parse N fu a) m cs=Ac (l,r)->∃pre,cs=pre++r/\l.length=m/\A2 (N.c a) H l pre:=by
   intro m;induction m with
   |zero=>intro cs l r h;cases h;exact⟨[],rfl,rfl,rfl⟩
   |succ m C=>
    intro cs l r h;simp only[rep]at h;split at h
    ·rename_i y u f;split at h;· rename_i D s j;cases h;obtain⟨q,w,A⟩:=CE (H:=H) f;obtain⟨p,c,d,g⟩:=C _ _ _ j;exact⟨q++p,by rw[w,c];simp,by simp[d],q,p,rfl,A,g⟩
     ·cases h
    grind
  obtain⟨p,c,d,g⟩:=key _ _ _ _ h;exact⟨p,c,d,g⟩
theorem C5{H:Hp} :∀ {fu:Nat} {t:Ty} {x:t.den N.T} {off:Nat} {ty:Ty} {y:ty.den N.T} {cs:List BZ},Fj N fu t x off ty=Ac y->(N.c t).BO H x cs->(N.c ty).BO H y ((cs.drop off).take (ty.sz N))/\off+ty.sz N<=cs.length
 |0,_,_,_,_,_,_,h,_=>by cases h
 |fu+1,t,x,off,ty,y,cs,h,g=>by
  unfold Fj at h;split at h
  ·rename_i f D;obtain⟨C,rfl⟩:=BB D;split at h;· rename_i n;have:=AI n;have o:=Pb C g;grind[Bg,List.take_length]
   grind
  ·cases t with
   |st a=>exact C5 (t:=a) h g
   |pr a b=>
    obtain⟨G,I,rfl,k,e⟩:=g;have z:=Bg k;cases c:bg off (a.sz N)with
    |true=>
     simp only[c]at h
     obtain⟨d,r⟩:=C5 (t:=a) h k;grind
    |false=>
     simp only[c]at h;have c:¬off<a.sz N:=λE=>by rw[show bg off (a.sz N)=Bp by simpa using E]at c;grind
     obtain⟨d,r⟩:=C5 (t:=b) h e;grind[List.drop_append,rn]
   |nm i=>exact C5 (t:=N.body i) h (N.lay.1 g)
   |ar m a=>
    simp only at h;split at h
    ·rename_i L q;obtain⟨k,e⟩:x.length=m/\A2 (N.c a) H x cs:=g;obtain⟨w,s,_,u⟩:=e.get q;obtain⟨d,r⟩:=C5 (t:=a) h s;have p:=Bg s
     have l:cs.length=x.length*a.sz N:=by rw[e.len,Bn]
     have F:=(No.1 q).1;have B:=Agn off (a.sz N);rw[Bn]at u;have K:a.sz N*(off/a.sz N)+a.sz N<=cs.length:=by rw[l,Adb,<-Ady];exact Abi _ F
     refine⟨?_,by omega⟩;rw[u,Agw,Ald,Adf,Aei (by omega)]at d;rw[show off/a.sz N*a.sz N+off %a.sz N=off by rw[Adb];exact B]at d;exact d
    grind
   |_=>cases h
theorem oI{vs:List BZ}{p s r:Nat}(h:p+s<=cs.length)(k:r+vs.length<=s):Cy cs p (Cy ((cs.drop p).take s) r vs)=Cy cs (p+r) vs:=by
 have e:((cs.drop p).take s).drop (r+vs.length)=(cs.drop (p+(r+vs.length))).take (s-(r+vs.length)):=by rw[Agw,Adf]
 have c:(Cy ((cs.drop p).take s) r vs).length=s:=by grind[Cy]
 have f:cs.drop (p+(r+vs.length))=(cs.drop (p+(r+vs.length))).take (s-(r+vs.length))++cs.drop (p+s):=by
  conv=>lhs;rw[<-Ace (s-(r+vs.length)) (cs.drop (p+(r+vs.length)))]
  grind[xr]
 grind[Cy]
theorem EN{H:Hp} :∀ {fu:Nat} {t:Ty} {x z:t.den N.T} {off:Nat} {ty:Ty} {y:ty.den N.T} {cs vs:List BZ},setAt N fu t x off ty y=Ac z->(N.c t).BO H x cs->(N.c ty).BO H y vs->(N.c t).BO H z (Cy cs off vs)/\off+vs.length<=cs.length
 |0,_,_,_,_,_,_,_,_,h,_,_=>by cases h
 |fu+1,t,x,z,off,ty,y,cs,vs,h,n,j=>by
  unfold setAt at h;split at h
  ·rename_i f L;obtain⟨K,rfl⟩:=BB L;split at h;· rename_i I;have:=AI I;subst this;have A:=Pb K j;have v:=Bg A;grind[Cy,Bg]
   grind
  ·cases t with
   |st a=>exact EN (t:=a) h n j
   |pr a b=>
    obtain⟨q,u,rfl,l,c⟩:=n;have v:=Bg l;cases d:bg off (a.sz N)with
    |true=>
     simp only[d]at h
     obtain⟨w,e,rfl⟩:=Pd.1 h;obtain⟨g,p⟩:=EN (t:=a) e l j;refine⟨⟨Cy q off vs,u,?_,g,c⟩,by grind⟩;grind[Cy]
    |false=>
     simp only[d]at h;have d:¬off<a.sz N:=λM=>by rw[show bg off (a.sz N)=Bp by simpa using M]at d;grind
     obtain⟨w,e,rfl⟩:=Pd.1 h;obtain⟨g,p⟩:=EN (t:=b) e c j;refine⟨⟨q,Cy u (off-a.sz N) vs,?_,l,g⟩,by grind⟩;unfold Cy;rw[<-v,Adu,Abl (by omega),Acw,Aax (by omega:q.length<=off+vs.length)];grind
   |ar m a=>
    simp only at h;split at h
    ·rename_i P o;change List (a.den N.T)at x;obtain⟨w,e,rfl⟩:=Pd.1 h;obtain⟨l,c⟩:x.length=m/\A2 (N.c a) H x cs:=n;obtain⟨F,D,_,E⟩:=c.get o;obtain⟨g,p⟩:=EN (t:=a) e D j;have C:=Bg D;have B:=(No.1 o).1;have r:cs.length=x.length*a.sz N:=by rw[c.len,Bn]
     have J:=Agn off (a.sz N);have s:=c.set B g;rw[Bn]at E s;have O:a.sz N*(off/a.sz N)+a.sz N<=cs.length:=by rw[r,Adb,<-Ady];exact Abi _ B
     rw[E,oI (by rw[Adb];exact O) (by omega),show off/a.sz N*a.sz N+off %a.sz N=off by rw[Adb];exact J]at s;exact⟨⟨by rw[Abp];exact l,s⟩,by omega⟩
    ·cases h
   |nm i=>
    obtain⟨w,e,rfl⟩:=Pd.1 h;obtain⟨g,p⟩:=EN (t:=N.body i) e (N.lay.1 n) j;exact⟨N.lay.2 (by rw[N.LM];exact g),p⟩
   |_=>cases h
theorem I5{C:List (SV N.T)}{t:Ty}{s:SV N.T}{x:t.den N.T}{η:Nat->BZ}{H:Hp}{v:BZ}(h:fj N t s=Ac x)(a:s.is C η H v):(SV.d t x).is C η H v:=by
 unfold fj at h;split at h;· obtain⟨f,d,rfl⟩:=Pd.1 h;obtain⟨c,rfl⟩:=BB d;have e:=Adl c;subst e;exact a
 ·cases h;exact⟨[_],rfl,by rw[a.1];rfl⟩
 ·cases h;exact⟨[_],rfl,by rw[a.1];rfl⟩
 ·cases h;exact⟨[_],rfl,by rw[a.1];rfl⟩
 ·cases h;exact⟨[_],rfl,by rw[show v=_ from a];rfl⟩
 ·cases h;exact⟨[_],rfl,by rw[a.1];rfl⟩
 ·obtain⟨f,d,rfl⟩:=Pd.1 h;obtain⟨c,rfl⟩:=BB d;have e:=Adl c;subst e;exact a.2
 ·rw[<-a]at h;split at h;· rename_i y j;obtain⟨p,e,g⟩:=CE (H:=H) j;rw[Adh]at e;cases b:t.agg with
   |true=>
    rw[b]at h;cases v with
    |agg i=>cases h;exact⟨p,g,by unfold CL;rw[b];rw[<-e];rfl⟩
    |_=>grind
   |false=>
    rw[b]at h;cases v with
    |agg i=>grind
    |_=>cases h;exact⟨p,g,by unfold CL;rw[b];rw[<-e];rfl⟩
  grind
 grind
end
end
def PV{T:Nat->Type} :SV T->Bool
 | .na _| .lb _| .loc _ _| .AH _| .mp _| .AK _ _ _=>Bp
 | .raw v=>v.oneCell'
 | .px _ .sf=>Bp
 |_=>Aj
section
variable (N : C9)
def SU:Nat->SV N.T->Nat->Option (SV N.T)
 |0,_,_=>C7
 |a+1,l,n=>match Hj n 0 with
  |true=>Ac l
  |false=>match l with
   | .lf s _ l=>match iT s n with
    |true=>SU a l (n-s)
    |false=>C7
   |_=>C7
def KR(
     C:List (SV N.T)):Nat->(ty:Ty)->SV N.T->Option (ty.den N.T×SV N.T)
 |0,_,_=>C7
 |c+1,ty,l=>match(match l with
   | .lf s a r=>match Hj s (ty.sz N)with
    |true=>(fj N ty (res C a)).map λx=>(x,r)
    |false=>C7
   |_=>C7)with
  |some p=>Ac p
  |none=>match ty with
   | .st t=>KR C c t l
   | .pr a b=>match KR C c a l with
    |some (x,l)=>match KR C c b l with
     |some (y,l)=>Ac ((x,y),l)
     |none=>C7
    |none=>C7
   | .nm i=>(KR C c (N.body i) l).map λp=>(N.wX i p.1,p.2)
   |_=>C7
def E0(C:List (SV N.T)):SV N.T->Nat->Option Ty->Option (SV N.T)
 | .lf s a l,off,b=>match bg off s with
  |true=>match Hj off 0&&(Hj s 1&&PV (res C a))with
   |true=>Ac (res C a)
   |false=>match b with
    |none=>C7
    |some c=>match(match res C a with
      | .d t x=>Fj N 16 t x off c
      |_=>C7)with
     |some y=>Ac (.d c y)
     |none=>match Hj off 0 with
      |true=>(KR N C 16 c (.lf s a l)).map λp=> .d c p.1
      |false=>C7
  |false=>E0 C l (off-s) b
 |_,_,_=>C7
def fc(C:List (SV N.T)):Nat->SV N.T->Nat->Nat->SV N.T->Option (SV N.T)
 |0,_,_,_,_=>C7
 |e+1,l,off,c,b=>match l with
  | .lf s a l=>match bg off s with
   |true=>match Hj off 0&&iT s c with
    |true=>(SU N 64 l (c-s)).map (.lf c b)
    |false=>match res C a with
     | .d (.st t) x=>fc C e (.lf s (.d t x) l) off c b
     | .d (.pr t u) x=>fc C e (.lf (t.sz N) (.d t x.1) (.lf (u.sz N) (.d u x.2) l)) off c b
     | .d (.nm i) x=>fc C e (.lf s (.d (N.body i) (N.out i x)) l) off c b
     | .d (.ar m t) x=>match Hj (off %t.sz N) 0&&(Hj c (t.sz N)&&bg 0 (t.sz N)),fj N t b,(show List (t.den N.T)from x)[off/t.sz N]? with
      |true,Ac y,Ac _=>Ac (.lf s (.d (.ar m t) (show(Ty.ar m t).den N.T from(show List (t.den N.T)from x).set (off/t.sz N) y)) l)
      |_,_,_=>C7
     |_=>C7
   |false=>(fc C e l (off-s) c b).map (.lf s a)
  |_=>C7
def toL:SV N.T->Option (SV N.T)
 | .lf s a l=>Ac (.lf s a l)
 | .nl=>Ac .nl
 | .d t x=>Ac (.lf (t.sz N) (.d t x) .nl)
 | .ct _ n| .cb _ n=>Ac (.lf 1 (.na n) .nl)
 | .lt _ n m=>Ac (.lf 1 (.d .bool (Di ((n:Int)<(m:Int)))) .nl)
 |s=>match PV s with
  |true=>Ac (.lf 1 s .nl)
  |false=>C7
variable {N} {C : List (SV N.T)}
section
variable{η:Nat->BZ}{H:Hp}{l:SV N.T}{t:Ty}{x:t.den N.T}{cs:List BZ}
theorem MH{s:SV N.T}{η:Nat->BZ}{H:Hp}{v:BZ}(h:PV s=Bp)(a:s.is C η H v):v.oneCell'=Bp:=by
 cases s<;>simp only[PV]at h<;>first|grind|skip
 ·rw[a.1];rfl
 ·rw[show v=_ from a];rfl
 ·rw[show v=_ from a];omega
 ·obtain⟨B,_,rfl⟩:=a;rfl
 ·exact a.2
 ·exact a.2
 ·obtain⟨c,rfl,_⟩:=a;rfl
 ·rename_i b p;cases p with
  |sf=>
   rcases a with rfl|⟨_,_,rfl⟩<;>rfl
  |_=>grind
theorem A_{v:BZ}(h:v.oneCell'=Bp):v.cells.toList=[v]:=rJ h
theorem CP{t:Ty}{x:t.den N.T}{η:Nat->BZ}{H:Hp}{v:BZ}(h:(SV.d t x).is C η H v):(N.c t).BO H x v.cells.toList/\∀u∈v.cells.toList,u.oneCell'=Bp:=by obtain⟨e,b,a⟩:=h;have c:=(N.c t).one b;grind[CL,BZ.cells,A_]
theorem E7(h:(N.c t).BO H x cs):∃u,(SV.d t x).is C η H u/\u.cells.toList=cs:=by
 cases a:t.agg with
 |true=>exact⟨.agg cs.toArray,⟨cs,h,by grind[CL]⟩,by rfl⟩
 |false=>
  have d:t.sz N=1:=by cases t<;>simp_all [Ty.agg,Ty.sz]
  have b:=Bg h;rw[d]at b;obtain⟨v,rfl⟩:=Adc.1 b;exact⟨v,⟨[v],h,by grind[CL]⟩,A_ ((N.c t).one h v (by simp))⟩
theorem Ld{s:Nat}{a l:SV N.T}{η:Nat->BZ}{H:Hp}{u:BZ}{c2:List BZ}(h:a.is C η H u)(d:u.cells.toList.length=s)(c:∀x∈u.cells.toList,x.oneCell'=Bp)(k:l.is C η H (.agg c2.toArray)):(SV.lf s a l).is C η H (.agg (u.cells.toList++c2).toArray):=
 ⟨u.cells.toList,c2,u,rfl,d,h,rfl,c,k⟩
theorem UB{b c2:List BZ}(h:(N.c t).BO H x b)(k:l.is C η H (.agg c2.toArray)):(SV.lf (t.sz N) (.d t x) l).is C η H (.agg (b++c2).toArray):=by obtain⟨u,c,e⟩:=E7 (C:=C) (η:=η) h;grind[Ld,Bg,CP]
theorem aE:(SV.nl:SV N.T).is C η H (.agg ([]:List BZ).toArray):=rfl
theorem FG{s:Nat}{a:SV N.T}(h:(SV.lf s a l).is C η H (.agg cs.toArray)):∃b c2 u,cs=b++c2/\b.length=s/\a.is C η H u/\u.cells.toList=b/\(∀x∈b,x.oneCell'=Bp)/\l.is C η H (.agg c2.toArray):=by obtain⟨b,c2,u,c,d⟩:=h;refine⟨b,c2,u,?_,d⟩;grind
theorem ou{s:SV N.T}{v:BZ}(h:toL N s=Ac l)(a:s.is C η H v):l.is C η H (.agg v.cells):=by
 have one:∀ {s:SV N.T},s.is C η H v->v.oneCell'=Bp->(SV.lf 1 s .nl).is C η H (.agg v.cells):=λ{s} a c=>by have:=Ld (s:=1) a (by grind[A_]) (by grind[A_]) aE;simp_all
 have gen:∀ {s:SV N.T},s.is C η H v->PV s=Bp->(SV.lf 1 s .nl).is C η H (.agg v.cells):=λa b=>one a (MH b a);unfold toL at h;split at h;· cases h;obtain⟨g,c2,u,rfl,e⟩:=a;exact⟨g,c2,u,rfl,e⟩
 ·cases h;rw[show v=_ from a];rfl
 ·obtain⟨i,e⟩:=CP a;have:=UB (C:=C) (η:=η) (c2:=[]) i aE;simp_all
 ·cases h;exact one (s:= .na _) a (by rw[a.1];rfl)
 ·cases h;exact one (s:= .na _) ⟨a.1,Agj a.2⟩ (by rw[a.1];rfl)
 ·cases h;exact one (s:= .d .bool _) ⟨[_],rfl,by rw[a.1];rfl⟩ (by rw[a.1];rfl)
 grind
theorem M_{η:Nat->BZ}{H:Hp} :∀ {fu:Nat} {l r:SV N.T} {n:Nat} {cs:List BZ},SU N fu l n=Ac r->l.is C η H (.agg cs.toArray)->r.is C η H (.agg (cs.drop n).toArray)/\n<=cs.length
 |0,_,_,_,_,h,_=>by cases h
 |fu+1,l,r,n,cs,h,d=>by
  unfold SU at h;split at h;· simp_all
  ·split at h
   ·split at h;· rename_i c;have c:=Abc c;obtain⟨j,k,u,rfl,f,_,_,_,g⟩:=FG d;obtain⟨i,m⟩:=M_ h g;grind[List.drop_append,rn]
    grind
   grind
theorem EK{η:Nat->BZ}{H:Hp} :∀ {fu:Nat} {ty:Ty} {l r:SV N.T} {x:ty.den N.T} {cs:List BZ},KR N C fu ty l=Ac (x,r)->l.is C η H (.agg cs.toArray)->∃c c2,cs=c++c2/\(N.c ty).BO H x c/\r.is C η H (.agg c2.toArray)
 |0,_,_,_,_,_,h,_=>by cases h
 |fu+1,ty,l,r,x,cs,h,f=>by
  unfold KR at h;split at h
  ·rename_i p d;cases h;split at d
   ·split at d;· obtain⟨y,E,e⟩:=Pd.1 d;cases e;obtain⟨c,c2,u,rfl,n,A,B,G,D⟩:=FG f;refine⟨c,c2,rfl,?_,D⟩;rw[<-B];exact(CP (I5 E (EU A))).1
    grind
   grind
  ·cases ty with
   |st t=>exact EK (ty:=t) h f
   |pr a b=>
    simp only at h;split at h
    ·rename_i y F k;split at h;· rename_i z I n;cases h;obtain⟨c,c2,rfl,g,j⟩:=EK k f;obtain⟨m,q,rfl,v,w⟩:=EK n j;exact⟨c++m,q,by simp,⟨c,m,rfl,g,v⟩,w⟩
     grind
    grind
   |nm i=>
    obtain⟨⟨y,F⟩,k,e⟩:=Pd.1 h;cases e;obtain⟨c,c2,rfl,g,j⟩:=EK k f;exact⟨c,c2,rfl,N.lay.2 (by rw[N.LM];omega),j⟩
   |_=>cases h
structure xP(C:List (SV N.T))(η:Nat->BZ)(H:Hp)(sv:SV N.T)(c:List BZ):Prop where
 ex:∃u,sv.is C η H u/\u.cells.toList=c/\((∃ty x,sv= .d ty x/\c.length=ty.sz N)\/(u.oneCell'=Bp/\∀ty x,sv≠ .d ty x))
theorem Dv:∀ {l sv:SV N.T} {off:Nat} {d:Option Ty} {cs:List BZ},E0 N C l off d=Ac sv->l.is C η H (.agg cs.toArray)->∃c,xP C η H sv c/\(cs.drop off).take c.length=c:=by
 intro l;induction l with
 |lf s a l _ R=>
  intro sv off d cs h F;obtain⟨A,S,u,rfl,M,f,D,W,O⟩:=FG F;unfold E0 at h;split at h
  ·split at h;· rename_i k b;cases h;simp only[AT]at b;have J:=AI b.1;subst J;have f:=EU f;have Q:=MH b.2.2 f;refine⟨A,⟨u,f,D, .inr ⟨Q,λj x e=>?_⟩⟩,by simp⟩;rw[e]at b;cases b.2.2
   ·split at h;· grind
    ·rename_i j;split at h
     ·rename_i y p;cases h;split at p
      ·rename_i t x o;have f:=EU f;rw[o]at f;have E:=(CP f).1;rw[D]at E;obtain⟨q,G⟩:=C5 p E;obtain⟨w,v,z⟩:=E7 (C:=C) (η:=η) q;have g:((A.drop off).take (j.sz N)).length=j.sz N:=by simp;omega
       refine⟨_,⟨w,v,z, .inl ⟨j,y,rf,g⟩⟩,?_⟩;rw[g,Afj (by omega),Acf (by simp;omega)]
      grind
     ·split at h;· rename_i L;have:=AI L;subst this;obtain⟨⟨y,r⟩,P,e⟩:=Pd.1 h;cases e;obtain⟨I,T,K,B,V⟩:=EK P F;obtain⟨w,v,z⟩:=E7 (C:=C) (η:=η) B;refine⟨I,⟨w,v,z, .inl ⟨j,y,rfl,Bg B⟩⟩,?_⟩;rw[K,Afa,List.take_left'];rfl
      ·cases h
  ·rename_i k;have k:s<=off:=by
    rcases Aam off s with n|n;· rw[show bg off s=Bp by simpa using n]at k;cases k
    ·exact n
   obtain⟨c,q,G⟩:=R h O;refine⟨c,q,?_⟩;rw[Acw,Aax (by omega),Ach,M];exact G
 |_=>intro sv off d cs h _;simp[E0]at h
theorem IH{η:Nat->BZ}{H:Hp}{v:BZ}{b:SV N.T}(B:b.is C η H v)(F:∀x∈v.cells.toList,x.oneCell'=Bp):∀ {fu:Nat} {l S:SV N.T} {off:Nat} {cs:List BZ},fc N C fu l off v.cells.toList.length b=Ac S->l.is C η H (.agg cs.toArray)->
  S.is C η H (.agg (Cy cs off v.cells.toList).toArray)/\off+v.cells.toList.length<=cs.length
 |0,_,_,_,_,h,_=>by cases h
 |fu+1,l,S,off,cs,h,hl=>by
  unfold fc at h;split at h
  ·rename_i s a l;obtain⟨f,q,u,rfl,z,c,n,X,A⟩:=FG hl;split at h
   ·split at h
    ·rename_i k o;simp only[AT]at o;have T:=AI o.1;obtain⟨r,P,rfl⟩:=Pd.1 h;obtain⟨R,k2⟩:=M_ P A;refine⟨?_,by grind⟩;have:=Ld B rfl F R;simp_all[Cy,Aec,Ach,Abm,Acw,Aax]
    ·split at h;· rename_i t x d;have c:=EU c;rw[d]at c;have g:=(CP c).1;rw[n]at g;have:=UB (t:=t) (C:=C) (η:=η) g A;rw[show t.sz N=s from by rw[<-z];exact(Bg g).symm]at this;exact IH B F h this
     ·rename_i t u' x d;have c:=EU c;rw[d]at c;have g:=(CP c).1;rw[n]at g;obtain⟨d1,d2,e,I,w⟩:=g;have:=UB (t:=t) (C:=C) (η:=η) I (UB (t:=u') (C:=C) (η:=η) w A);rw[<-Aal,<-e]at this;exact IH B F h this
     ·rename_i i x d;have c:=EU c;rw[d]at c;have g:=(CP c).1;rw[n]at g;have U:=N.lay.1 g;have:=UB (t:=N.body i) (C:=C) (η:=η) U A;rw[show(N.body i).sz N=s from by grind[Bg]]at this;exact IH B F h this
     ·rename_i m t x d;split at h
      ·rename_i y x0 p hy j;cases h;simp only[AT]at p;have T:=AI p.1;have L:=AI p.2.1;have c:=EU c;rw[d]at c;have g:=(CP c).1;rw[n]at g;obtain⟨I,w⟩:x.length=m/\A2 (N.c t) H x f:=g;have Q:=(CP (I5 hy B)).1;obtain⟨K,q1,_,q3⟩:=w.get j;have E:=Bg q1;have Y:=Agn off (t.sz N);have M:f.length=x.length*t.sz N:=by rw[w.len,Bn]
       have Z:=(No.1 j).1;have hm:t.sz N*(off/t.sz N)+t.sz N<=f.length:=by rw[M,Adb,<-Ady];exact Abi _ Z
       have V:=w.part (off:=0) (y:=y) (vs:=v.cells.toList) j q3 (by rw[Bn];exact E) (by rw[Bn,L];omega) (by
        have:Cy K 0 v.cells.toList=v.cells.toList:=by unfold Cy;rw[Aec,Ach,Abm,Aax (by omega),Adh]
        rw[this];exact Q);rw[Bn,Nat.add_zero,show off/t.sz N*t.sz N=off by rw[Adb];omega]at V;have D:(N.c (.ar m t)).BO H (show(Ty.ar m t).den N.T from(show List (t.den N.T)from x).set (off/t.sz N) y) (Cy f off v.cells.toList):=⟨by rw[Abp];exact I,V⟩;have:=UB (t:= .ar m t) (C:=C) (η:=η) D A;rw[show(Ty.ar m t).sz N=s from by rw[<-z];exact(Bg (t:= .ar m t) (show(N.c (.ar m t)).BO H x f from⟨I,w⟩)).symm]at this;refine⟨?_,by rw[Aaa];omega⟩;have e:Cy (f++q) off v.cells.toList=Cy f off v.cells.toList++q:=by
        unfold Cy;rw[Acf (by omega),Afj (by omega)];simp
       rw[e];exact this
      trivial
     grind
   ·rename_i k;have k:s<=off:=by
     rcases Aam off s with O|O;· rw[show bg off s=Bp by simpa using O]at k;cases k
     ·exact O
    obtain⟨r,P,rfl⟩:=Pd.1 h;obtain⟨R,k2⟩:=IH B F P A;refine⟨?_,by simp at*;omega⟩;have:=Ld (s:=s) c (by rw[n];exact z) (by rw[n];exact X) R;rw[n]at this;have e:Cy (f++q) off v.cells.toList=f++Cy q (off-s) v.cells.toList:=by unfold Cy;rw[Adu,Abl (by omega),Acw,Aax (by omega:f.length<=off+v.cells.toList.length),z];simp;omega
    rw[e];exact this
  grind
end
end
section
variable (N : C9) {R : Type}
def UL:List (Option Ty)->Option (Option Ty)
 | []=>Ac C7
 |none::_=>C7
 |some t::l=>match UL l with
  |some C7=>Ac (Ac t)
  |some (Ac u)=>Ac (Ac (.pr t u))
  |none=>C7
def fA(
     P:GQ):Nat->Gs->Option Ty
 |0,_=>C7
 |a+1,t=>match N.id t with
  |some i=>Ac (.nm i)
  |none=>match P.underlying t with
   |some .bool=>Ac .bool
   |some (.int k)=>Ac (.int k)
   |some .string=>Ac .str
   |some (.slice e)=>(fA P a e).map .sl
   |some (.array n e)=>match P.underlying e,Hj n 4 with
    |some (.int .u64),Bp=>Ac .bs
    |_,_=>(fA P a e).map λt=>match iT n 4 with
     |true=> .st (match UL (Uh n (Ac t))with|some (Ac u)=>u|_=> .un)
     |false=> .ar n t
   |some (.struct b)=>(UL (b.toList.map λf=>fA P a f.type)).map λr=> .st (r.getD .un)
   |_=>C7
def rp:Bool->Bool->Bool
 |true,Bp|false,Aj=>Bp
 |_,_=>Aj
theorem Ww:∀ {a b:Bool},rp a b=Bp->a=b:=by decide
def Mb(P:GQ)(t:Gs):Option Ty:=match fA N P 12 t,P.underlying t with
 |some a,Ac d=>match rp (DM d) a.agg&&PA P t (a.sz N)with
  |true=>Ac a
  |false=>C7
 |_,_=>C7
variable {N}
section
variable{k:Lr}{n:Int}{C:List (SV N.T)}{η:Nat->BZ}{H:Hp}
theorem Ke{P:GQ}{t:Gs}{ty:Ty}(h:Mb N P t=Ac ty):∃d,P.underlying t=Ac d/\DM d=ty.agg/\∃bytes z,TI P t (ty.sz N) bytes z:=by
 unfold Mb at h;split at h
 ·split at h;· rename_i a;grind[Ww,Ds]
  grind
 grind
def intOf:SV N.T->Option (Lr×Int)
 | .d (.int k) x=>Ac (k,x)
 | .na n| .ct _ n| .cb _ n=>Ac (.i64,(n:Int))
 | .raw (.int k n)=>Ac (k,n)
 |_=>C7
theorem AU{s:SV N.T}{v:BZ}(h:intOf s=Ac (k,n))(a:s.is C η H v):v= .int k n:=by
 unfold intOf at h;split at h;· obtain⟨d,b,c⟩:=a;have b:=(D4.1 b).1;subst b;have c:[_]=[v]:=c;grind
 ·cases h;exact a.1
 ·cases h;exact a.1
 ·cases h;exact a.1
 ·cases h;exact a
 grind
def Aa(k:Lr)(n:Int)(x:Option R):Option R:=match k with
 | .i64=>Ag (DW n) x
 | .u8=>Ag (F8 n) x
 |k=>Ag (k.min<=n/\n<=k.max) x
theorem BV{x:Option R}{r:R}(h:Aa k n x=Ac r):(k.min<=n/\n<=k.max)/\UP k n/\x=Ac r:=by
 unfold Aa at h;split at h;· obtain⟨a,b⟩:=AF h;trivial
 ·obtain⟨a,b⟩:=AF h;trivial
 ·obtain⟨a,b⟩:=AF h;refine⟨a,?_,b⟩;cases k<;>first|exact a|grind|exact absurd rfl d
theorem D6(h:UP k n):(SV.d (.int k) n:SV N.T).is C η H (.int k n):=⟨[_],D4.2 ⟨rfl,h⟩,rfl⟩
def RT(wr:List (Nat×SR N.T))(Rr:Nat->Option (SR N.T))(k:Nat):Option (SR N.T):=match Ay wr k with
 |some x=>Ac x
 |none=>Rr k
def D9(τ:Nat->Nat)(Rr:Nat->Option (SR N.T)):SV N.T->Prop
 | .ct i n=>τ i=n
 | .cb i n=>τ i=n
 | .lt i n _=>τ i=n
 | .Ec k i _ t x=> ∀g a l,Rr k=Ac (.row g a l)->∃h:a.JR t=Bp,(idx l i).map (Tg h)=Ac x
 |_=>True
def Ny(Rr:Nat->Option (SR N.T))(S:Nat->SV N.T)(τ:Nat->Nat):Prop:= ∀t,D9 τ Rr (S t)
structure A1(P:GQ)(C:List (SV N.T))(S:Nat->SV N.T)(Rr:Nat->Option (SR N.T))(nk:Nat)(o:K_)(k:Bx N.T->Nat->Option R)(r:R):Prop where
 ex:∃s nk',k s nk'=Ac r/\Ap P C S Rr o s/\nk<=nk'/\(∀j∈keys s.wr,Rr j=C7->nk<=j/\j<nk')/\∀τ,Ny Rr S τ->D9 τ (RT s.wr Rr) s.sv
end
section
variable {P : GQ} {C : List (SV N.T)} {S : Nat -> SV N.T} {Rr : Nat -> Option (SR N.T)} {nk : Nat} {o : K_} {k : Bx N.T -> Nat -> Option R} {r : R}
section
variable{cs:List BZ}{τ:Nat->Nat}{t:Ty}{v:BZ}
theorem A1.y{sv:SV N.T}{a:List Nat}(h:k ⟨sv,a,[]⟩ nk=Ac r)(c:Ap P C S Rr o ⟨sv,a,[]⟩)(d:∀τ,Ny Rr S τ->D9 τ Rr sv):A1 P C S Rr nk o k r:=
 ⟨_,nk,h,c,Aac _,λj b=>(by cases b),d⟩
theorem A1.new{sv:SV N.T}{b:List Nat}{c:SR N.T}(h:k ⟨sv,b,[(nk,c)]⟩ (nk+1)=Ac r)(d:Ap P C S Rr o ⟨sv,b,[(nk,c)]⟩)(e:∀τ Rr,D9 τ Rr sv):A1 P C S Rr nk o k r:=
 ⟨_,nk+1,h,d,Agt _,λj a _=>(by grind[keys]),λτ _=>e τ _⟩
theorem A1.set{sv:SV N.T}{d:List Nat}{b:Nat}{i e:SR N.T}(h:k ⟨sv,d,[(b,e)]⟩ nk=Ac r)(h0:Rr b=Ac i)(f:Ap P C S Rr o ⟨sv,d,[(b,e)]⟩)(g:∀τ Rr,D9 τ Rr sv):A1 P C S Rr nk o k r:=
 ⟨_,nk,h,f,Aac _,λj a c=>(by grind[keys]),λτ _=>g τ _⟩
theorem L8{x:Dn}(h:Ny Rr S τ):D9 τ Rr (Aw S x):=by
 cases x with
 |tmp t=>exact h t
 |const v=>simp only[Aw,ofConst];split<;>trivial
 |_=>trivial
theorem oW{s:SV N.T}(h:PV s=Bp):D9 τ Rr s:=by cases s<;>first|trivial|cases h
theorem VY{x:Dn}(b:o.op= .move x\/o.op= .assign x)(h:k ⟨Aw S x,[],[]⟩ nk=Ac r):A1 P C S Rr nk o k r:=by
 refine .y h (Abu λη H O a c _=>⟨a.eval x,?_,?_⟩) λτ h=>L8 h
 ·rcases b with b|b<;>rw[b];· exact Au.move rfl
  ·exact Au.assign rf
 grind[ax]
theorem ai{c x y:Dn}(b:o.op= .pick c x y)(hc:Aw S c= .lb Bp)(h:k ⟨Aw S x,[],[]⟩ nk=Ac r):A1 P C S Rr nk o k r:=by refine .y h (Abu λη H O a d _=>⟨a.eval x,?_,d x (by grind[ax])⟩) λτ h=>L8 h;have:=d c (by grind[ax]);rw[hc]at this;rw[b];exact Aka (congrArg Ac this) rf
theorem aj{c x y:Dn}(b:o.op= .pick c x y)(hc:Aw S c= .lb Aj)(h:k ⟨Aw S y,[],[]⟩ nk=Ac r):A1 P C S Rr nk o k r:=by refine .y h (Abu λη H O a d _=>⟨a.eval y,?_,d y (by grind[ax])⟩) λτ h=>L8 h;have:=d c (by grind[ax]);rw[hc]at this;rw[b];exact Ajz (congrArg Ac this) rf
def ldB(P:GQ)(t:Gs)(sv:SV N.T):Bool:=match P.underlying t with
 |some d=>match sv with
  | .d a _=>rp (DM d) a.agg&&PA P t (a.sz N)
  |_=> !DM d
 |none=>Aj
def wO(P:GQ)(C:List (SV N.T))(S:Nat->SV N.T)(Rr:Nat->Option (SR N.T))(nk:Nat)(t:Gs)(x:Dn)(k:Bx N.T->Nat->Option R):Option R:=match Aw S x with
 | .loc b off=>match Rr b with
  |some (.Ah _ l)=>match E0 N C l off (Mb N P t)with
   |some sv=>match ldB P t sv with
    |true=>k ⟨sv,[b],[]⟩ nk
    |false=>C7
   |none=>C7
  |_=>C7
 | .pd c y off=>match Mb N P t with
  |some a=>match Fj N 16 c y off a,bg 0 (a.sz N)with
   |some z,Bp=>k ⟨.d a z,[],[]⟩ nk
   |_,_=>C7
  |none=>C7
 | .Ec b _ off e y=>match Rr b,Mb N P t with
  |some (.row _ _ _),Ac a=>match Fj N 16 e y off a,bg 0 (a.sz N)with
   |some z,Bp=>k ⟨.d a z,[b],[]⟩ nk
   |_,_=>C7
  |_,_=>C7
 |_=>C7
theorem Kj(h:CL t cs v)(a:t.agg=Bp):v= .agg cs.toArray:=by grind[CL]
theorem Ki(h:CL t cs v)(a:t.agg=Aj):cs=[v]:=by grind[CL]
theorem drop_one{off:Nat}{u:BZ}(h:(cs.drop off).take 1=[u]):cs[off]?=Ac u:=by
 have:((cs.drop off).take 1)[0]?=Ac u:=by grind
 grind
theorem ni{t:Gs}{x:Dn}(ho:o.op= .load t x)(hW:∃τ,Ny Rr S τ)(h:wO P C S Rr nk t x k=Ac r):A1 P C S Rr nk o k r:=by
 have U:∀ {η:Nat->BZ} {H:Hp} {a:Act},(∀x∈o.op.operands,(Aw S x).is C η H (a.eval x))->(Aw S x).is C η H (a.eval x):=λV=>V x (by grind[ax]);unfold wO at h;split at h
 ·rename_i b off hs;
           split at h
  ·rename_i g l T;split at h
   ·rename_i sv Z;
           split at h
    ·rename_i Q;refine .y h (Abu λη H O a V hr=>?_) λτ _=>?_
     ·obtain⟨B,M,e2⟩:(SV.loc b off:SV N.T).is C η H (a.eval x):=by grind
      rcases hr b (by simp) _ T with e|⟨X,i,L,B',cs,Y,e4,h2⟩;· grind
      rw[M]at Y;have Y:B=B':=by grind[ptr]
      subst Y;subst e4;obtain⟨c,⟨u,k1,k2,k3⟩,k4⟩:=Dv (cs:=cs.toList) Z h2;unfold ldB at Q;split at Q
      ·rename_i d I;rcases k3 with⟨n,y,rfl,f⟩|⟨ho1,hnd⟩;· simp only[AT]at Q;have w:=Ww Q.1;obtain⟨bytes,z,F⟩:=Ds Q.2;obtain⟨D,q1,K⟩:=k1;refine⟨u,?_,⟨D,q1,K⟩⟩;rw[ho];cases A:n.agg with
        |true=>
         have:=Kj K A;subst this;have hc:D=c:=by trivial
         subst hc;exact Aiz I (by grind) (by rw[f];exact F) (congrArg Ac e2) L k4
        |false=>
         have:=Ki K A;subst this;have hc:c=[u]:=by rw[<-k2];exact A_ ((N.c n).one q1 u (by simp))
         subst hc;exact Agg I (by rw[w,A]) (congrArg Ac e2) L (by simpa using drop_one k4)
       ·have hB':DM d=Aj:=by
         cases sv with
         |d n y=>exact absurd rfl (hnd n y)
         |_=>simpa using Q
        refine⟨u,?_,k1⟩;have hc:c=[u]:=by rw[<-k2];exact A_ ho1
        subst hc;rw[ho];exact Agg I hB' (congrArg Ac e2) L (by simpa using drop_one k4)
      grind
     ·have:∀ {l sv:SV N.T} {off:Nat} {G:Option Ty},E0 N C l off G=Ac sv->D9 τ Rr sv:=by
       intro l;induction l with
       |lf s a l _ ih=>
        intro sv off G h;unfold E0 at h;split at h
        ·split at h;· rename_i T;cases h;simp only[AT]at T;exact oW T.2.2
         ·split at h;· cases h
          ·split at h;· cases h;trivial
           ·split at h;· obtain⟨p,_,rfl⟩:=Pd.1 h;trivial
            ·cases h
        ·exact ih h
       |_=>intro sv off G h;simp[E0]at h
      exact this Z
    grind
   grind
  grind
 ·rename_i t' y off hs;split at h
  ·rename_i n ht;split at h
   ·rename_i z hz h0;refine .y h (Abu λη H O a V hr=>?_) λτ _=>trivial;obtain⟨ad,q,cs,M,L,h2⟩:(SV.pd t' y off:SV N.T).is C η H (a.eval x):=by rw[<-hs];exact U V
    obtain⟨d,I,w,bytes,zv,F⟩:=Ke ht;obtain⟨k1,k2⟩:=C5 hz L;obtain⟨u,w1,W⟩:=E7 (η:=η) k1;have f:((cs.drop off).take (n.sz N)).length=n.sz N:=by simp;omega
    have hc:∀j u,((cs.drop off).take (n.sz N))[j]?=Ac u->DV H (.pointer (Ac (ad.add (q+off+j)))) u:=λj u E=>by
     rw[Aht]at E;split at E;· rw[Aft]at E;rw[Adt];exact h2 _ u E
     ·cases E
    refine⟨u,?_,w1⟩;rw[ho];obtain⟨D,q1,K⟩:=w1;cases A:n.agg with
    |true=>
     have:=Kj K A;subst this;have e:D=(cs.drop off).take (n.sz N):=by simpa [BZ.cells]using W
     subst e;refine Aij (v:= .slice (Ac ad) 0 0) (k:=q+off) I (by rw[w,A]) (by rw[f];exact F) ?_ (congrArg Ac M) hc;cases Z:(cs.drop off).take (n.sz N)with
     |nil=>rw[Z]at f;simp at f h0;omega
     |cons a l=>rfl
    |false=>
     have:=Ki K A;subst this;rw[A_ ((N.c n).one q1 u (by simp))]at W;exact Ajd I (by rw[w,A]) (congrArg Ac M) (by have:=hc 0 u (by rw[<-W];rfl);simpa using this)
   ·cases h
  ·cases h
 ·rename_i b i off te y hs;split at h
  ·rename_i g te' l n T ht;split at h
   ·rename_i z hz h0;refine .y h (Abu λη H O a V hr=>?_) λτ _=>trivial;obtain⟨M,ad,n',c',e2⟩:(SV.Ec b i off te y:SV N.T).is C η H (a.eval x):=by rw[<-hs];exact U V
    obtain⟨τ,hτ⟩:=hW;have hw:D9 τ Rr (Aw S x):=L8 hτ;rw[hs]at hw;obtain⟨he,hi⟩:=hw g te' l T;obtain⟨y',hy',rfl⟩:=Pd.1 hi;have ee:=Adl he;subst ee;rcases hr b (by simp) _ T with e|⟨X,j,L,xs,Y,hL⟩;· cases e
    subst Y;obtain⟨d,I,w,bytes,zv,F⟩:=Ke ht;obtain⟨cs,g1,g2,_⟩:=hL.get (Dh hy').2;obtain⟨k1,k2⟩:=C5 hz g1;obtain⟨u,w1,W⟩:=E7 (η:=η) k1;have f:((cs.drop off).take (n.sz N)).length=n.sz N:=by simp;omega
    have hc:∀j u,((cs.drop off).take (n.sz N))[j]?=Ac u->xs[i.toNat*te'.sz N+off+j]?=Ac u:=λj u E=>by
     rw[Aht]at E;split at E;· rw[Aft]at E;have:=g2 _ u E;rw[Bn]at this;rw[Adt];exact this
     ·cases E
    refine⟨u,?_,w1⟩;rw[ho];obtain⟨D,q1,K⟩:=w1;cases A:n.agg with
    |true=>
     have:=Kj K A;subst this;have e:D=(cs.drop off).take (n.sz N):=by simpa [BZ.cells]using W
     subst e;refine Akl I (by rw[w,A]) (by rw[f];exact F) ?_ (congrArg Ac M) L hc;intro Z;rw[Z]at f;simp at f h0;omega
    |false=>
     have:=Ki K A;subst this;rw[A_ ((N.c n).one q1 u (by simp))]at W;exact Ahl I (by rw[w,A]) (congrArg Ac M) L (by have:=hc 0 u (by rw[<-W];rfl);simpa using this)
   ·cases h
  ·cases h
 grind
end
end
end
section
variable {N : C9} {R : Type} {P : GQ} {C : List (SV N.T)} {S : Nat -> SV N.T} {Rr : Nat -> Option (SR N.T)} {nk : Nat} {o : K_} {k : Bx N.T -> Nat -> Option R} {r : R}
section
variable{t T:Gs}{E:Dn->Option BZ}{H:Hp}{O:List Ax}
theorem Ajo{size bytes:Nat}{z:BZ}(g:TI P t size bytes z):
  BM P (.alloc t) T E H O (λv c d=> ∃B,v=ptr B 0/\c=H/\d= .Ah B (.cells z.cells t (0,0))::O):= .Ao λa w o e _ h f=>by
 refine⟨_,_,H,_,?_,Hp.le.refl H,⟨w.heap.size,rf,rf,rf⟩,f.alloc _⟩;simp[Kt,e,Instr.alloc,g.zeroValue,newVar,newRow,ptr]
theorem Ahz{x:Dn}{v:BZ}(h:E x=Ac v):
  BM P (.box t x) T E H O (λu c d=> ∃B,u=ptr B 0/\c=H/\d= .Ah B (.cells v.cells t (0,0))::O):= .Ao λa w o f _ e g=>by
 refine⟨_,_,H,_,?_,Hp.le.refl H,⟨w.heap.size,rf,rf,rf⟩,g.alloc _⟩;simp_all[Kt,Instr.box,newVar,newRow,ptr]
def TW(C:List (SV N.T))(t:Ty)(s:SV N.T):Option (t.den N.T):=match s with
 | .lf z a l=>match t.agg,KR N C 64 t (.lf z a l)with
  |true,Ac (x, .nl)=>Ac x
  |_,_=>C7
 |s=>fj N t s
theorem DL{t:Ty}{s:SV N.T}{x:t.den N.T}{η:Nat->BZ}{H:Hp}{v:BZ}(h:TW C t s=Ac x)(b:s.is C η H v):(SV.d t x).is C η H v:=by
 unfold TW at h;split at h
 ·split at h
  ·rename_i l m;cases h;have i:=b;obtain⟨d,f,u,rfl,_⟩:=i;obtain⟨g,c,e,j,a⟩:=EK (η:=η) (H:=H) (cs:=d++f) m b;have a:BZ.agg c.toArray= .agg #[]:=a;have a:c=[]:=by grind
   subst a;refine⟨g,j,?_⟩;grind[CL]
  grind
 grind[I5]
end
variable (N) in
def fr(P:GQ):Nat->List Gs->List BZ->Option (SV N.T)
 |0,_,_=>C7
 |_+1,[],c=>match c with
  | []=>Ac .nl
  |_=>C7
 |e+1,t::f,c=>match a (Mb N P t)with
  |some b=>match parse N 16 b c with
   |some (x,r)=>(fr P e f r).map (.lf (b.sz N) (.d b x))
   |none=>C7
  |none=>match P.underlying t with
   |some (.struct g)=>fr P e (g.toList.map (·.type)++f) c
   |some (.array _ _)=>match Mb N P t with
    |some b=>match parse N 16 b c with
     |some (x,r)=>(fr P e f r).map (.lf (b.sz N) (.d b x))
     |none=>C7
    |none=>C7
   |_=>match c with
    |v::r=>match v.oneCell' with
     |true=>(fr P e f r).map (.lf 1 (.raw v))
     |false=>C7
    | []=>C7
 where
 a:Option Ty->Option Ty
  |some t=>match HB t with
   |true=>Ac t
   |false=>C7
  |none=>C7
section
variable{η:Nat->BZ}{H:Hp}{t:Gs}{v:BZ}{s:SV N.T}{x:Dn}{n:Nat}
theorem J'{η:Nat->BZ}{H:Hp} :∀ {fu:Nat} {ts:List Gs} {cs:List BZ} {l:SV N.T},fr N P fu ts cs=Ac l->l.is C η H (.agg cs.toArray)
 |0,_,_,_,h=>by cases h
 |_+1,[],cs,l,h=>by
  cases cs with
  |nil=>cases h;rfl
  |cons v r=>cases h
 |fu+1,t::ts,cs,l,h=>by
  have b:∀(e:Ty),(match parse N 16 e cs with
   |some (x,r)=>(fr N P fu ts r).map (.lf (e.sz N) (.d e x))
   |none=>C7)=Ac l->l.is C η H (.agg cs.toArray):=λe h=>by
   split at h;· rename_i x r j;obtain⟨m,f,rfl⟩:=Pd.1 h;obtain⟨p,rfl,i⟩:=CE (H:=H) j;exact UB i (J' f)
   grind
  unfold fr at h;split at h;· exact b _ h
  ·split at h;· exact J' h
   ·split at h;· exact b _ h
    grind
   ·split at h
    ·rename_i v r;split at h;· rename_i c;obtain⟨m,f,rfl⟩:=Pd.1 h;have:=Ld (N:=N) (s:=1) (a:= .raw v) (η:=η) (H:=H) rfl (by rw[A_ c];rfl) (by rw[A_ c];intro x g;simp at g;subst g;exact c) (J' f);grind[A_]
     grind
    grind
def U6(P:GQ)(nk:Nat)(t:Gs)(k:Bx N.T->Nat->Option R):Option R:=match P.info? t with
 |some a=>match a.zero with
  |some z=>match fr N P 64 [t] z.cells.toList with
   |some l=>k ⟨.loc nk 0,[],[(nk, .Ah t l)]⟩ (nk+1)
   |none=>C7
  |none=>C7
 |none=>C7
theorem au(g:o.op= .alloc t)(d:∀j,nk<=j->Rr j=C7)(h:U6 P nk t k=Ac r):A1 P C S Rr nk o k r:=by
 unfold U6 at h;split at h
 ·rename_i b e;split at h
  ·rename_i z i;split at h;· rename_i l f;refine .new h (Afd (d nk (Aac _)) λη H O a n _=>?_) λ_ _=>trivial;rw[g];refine(Ajo (size:=b.size) (bytes:=b.bytes) ⟨b,e,rfl,rfl,i⟩).mono ?_;rintro v c m ⟨B,rfl,rfl,rfl⟩;refine⟨rfl,_,ptr B 0,rfl,⟨B,z.cells,AA _ _ _,rfl,by have:=J' (C:=C) (η:=EA η nk (ptr B 0)) (H:=c) f;omega⟩,⟨B,AA _ _ _,rfl⟩⟩
   grind
  grind
 grind
def wC(P:GQ)(t:Gs)(s:SV N.T):SV N.T:=match PV s with
 |true=>s
 |false=>match Mb N P t with
  |some a=>match fj N a s with
   |some y=> .d a y
   |none=>s
  |none=>s
theorem Us(h:s.is C η H v):(wC P t s).is C η H v:=by grind[wC,I5]
theorem cg{b:BZ}(d:∀k∈CV C,k<nk)(c:B_ s.AJ nk=Aj)(h:s.is C η H v):s.is C (EA η nk b) H v:=
 h.env (λk a=>EH (by grind)) λk a=>EH λe=>by grind[AR]
def rY(P:GQ)(S:Nat->SV N.T)(nk:Nat)(t:Gs)(x:Dn)(k:Bx N.T->Nat->Option R):Option R:=match toL N (wC P t (Aw S x))with
 |some l=>match B_ l.AJ nk with
  |false=>k ⟨.loc nk 0,[],[(nk, .Ah t l)]⟩ (nk+1)
  |true=>C7
 |none=>C7
theorem pK(b:o.op= .box t x)(c:∀k∈CV C,k<nk)(d:∀j,nk<=j->Rr j=C7)(h:rY P S nk t x k=Ac r):A1 P C S Rr nk o k r:=by
 unfold rY at h;split at h
 ·rename_i l e;split at h;· rename_i f;refine .new h (Afd (d nk (Aac _)) λη H O a i _=>?_) λ_ _=>trivial;have g:=i x (by grind[ax]);rw[b];refine(Ahz (v:=a.eval x) rfl).mono ?_;rintro v m n ⟨B,rfl,rfl,rfl⟩;exact⟨rfl,_,ptr B 0,rfl,⟨B,_,AA _ _ _,rfl,cg c f (ou e (Us g))⟩,⟨B,AA _ _ _,rfl⟩⟩
  grind
 grind
def a6:SV N.T->Option (SV N.T×Nat)
 | .d t x=>Ac (.d t x,t.sz N)
 | .ct _ n| .cb _ n=>Ac (.na n,1)
 | .lt _ n m=>Ac (.d .bool (Di ((n:Int)<(m:Int))),1)
 |s=>match PV s with
  |true=>Ac (s,1)
  |false=>C7
theorem aZ{d:SV N.T}(h:a6 s=Ac (d,n))(a:s.is C η H v):d.is C η H v/\v.cells.toList.length=n/\∀x∈v.cells.toList,x.oneCell'=Bp:=by
 have one:v.oneCell'=Bp->v.cells.toList.length=1/\∀x∈v.cells.toList,x.oneCell'=Bp:=λb=>by grind[A_]
 unfold a6 at h;split at h;· obtain⟨e,f⟩:=CP a;grind[Bg]
 ·cases h;exact⟨a,one (by rw[a.1];rfl)⟩
 ·cases h;exact⟨⟨a.1,Agj a.2⟩,one (by rw[a.1];rfl)⟩
 ·cases h;exact⟨⟨[_],rfl,by rw[a.1];rfl⟩,one (by rw[a.1];rfl)⟩
 grind[MH]
theorem fL(cs:List BZ)(off:Nat)(a c2:List BZ)(h:off+(a.length+c2.length)<=cs.length):Cy (Cy cs off a) (off+a.length) c2=Cy cs off (a++c2):=by
 have e:(cs.take off++a).length=off+a.length:=by grind
 unfold Cy;rw[Acf (by omega),Abl (by omega),Acw,Aax (by omega),Ach,Adf,e];grind
def fI(C:List (SV N.T)):SV N.T->SV N.T->Nat->Option (SV N.T×Nat)
 | .lf s a r,l,off=>match fc N C 64 l off s a with
  |some b=>(fI C r b (off+s)).map λp=>(p.1,s+p.2)
  |none=>C7
 | .nl,l,_=>Ac (l,0)
 |_,_,_=>C7
theorem fH:∀ {b l g:SV N.T} {off n:Nat} {cs vs:List BZ},fI C b l off=Ac (g,n)->off<=cs.length->b.is C η H (.agg vs.toArray)->l.is C η H (.agg cs.toArray)->
  g.is C η H (.agg (Cy cs off vs).toArray)/\off+n<=cs.length/\vs.length=n/\∀x∈vs,x.oneCell'=Bp:=by
 intro b;induction b with
 |lf s a r _ I=>
  intro l g off n cs vs h z d q;unfold fI at h;split at h
  ·rename_i O y;obtain⟨⟨Q,m⟩,G,e⟩:=Pd.1 h;cases e;obtain⟨t,D,u,rfl,v,E,p,w,F⟩:=FG d;rw[<-v,<-p]at y;obtain⟨B,L⟩:=IH E (by simp_all) y q;rw[p]at B L;have c:(Cy cs off t).length=cs.length:=by unfold Cy;simp;omega
   obtain⟨A,J,M,K⟩:=I (cs:=Cy cs off t) (vs:=D) G (by omega) F B;rw[<-v,fL _ _ _ _ (by omega)]at A;refine⟨A,by omega,by simp;omega,λx f=>?_⟩;rcases AS.1 f with f|f;· exact w x f
   simp_all
  trivial
 |nl=>
  intro l g off n cs vs h z d q;cases h;have d:BZ.agg vs.toArray= .agg #[]:=d;have d:vs=[]:=by simpa using d
  subst d;refine⟨?_,by simpa using z,rfl,λx f=>(by cases f)⟩;unfold Cy;simpa using q
 |_=>intro l g off n cs vs h;cases h
def gf(C:List (SV N.T))(l:SV N.T)(off:Nat)(b:SV N.T):Option (SV N.T×Nat):=match b with
 | .lf s a r=>fI C (.lf s a r) l off
 |b=>match a6 b with
  |some (s,n)=>(fc N C 64 l off n s).map λl=>(l,n)
  |none=>C7
theorem VR{b l g:SV N.T}{off:Nat}{cs:List BZ}(h:gf C l off b=Ac (g,n))(t:off<=cs.length)(c:b.is C η H v)(d:l.is C η H (.agg cs.toArray)):
  g.is C η H (.agg (Cy cs off v.cells.toList).toArray)/\off+n<=cs.length/\v.cells.toList.length=n/\∀x∈v.cells.toList,x.oneCell'=Bp:=by
 unfold gf at h;split at h;· have p:=c;obtain⟨i,j,u,rfl,_⟩:=p;have:=fH (vs:=i++j) h t c d;trivial
 ·split at h;· rename_i s m w;obtain⟨D,q,e⟩:=Pd.1 h;obtain⟨y,z,f⟩:=aZ w c;grind[IH]
  grind
def Se:SV N.T->Nat
 | .lf s _ l=>s+Se l
 |_=>0
theorem Sb:∀ {l:SV N.T} {cs:List BZ},l.is C η H (.agg cs.toArray)->Se l<=cs.length:=by
 intro l;induction l with
 |lf s a r _ c=>
  intro cs h;obtain⟨d,e,u,rfl,f,_,_,_,b⟩:=FG h;grind[Se]
 |_=>intro cs h;exact Abe _
def zX(P:GQ)(C:List (SV N.T))(S:Nat->SV N.T)(Rr:Nat->Option (SR N.T))(nk:Nat)(t:Gs)(x y:Dn)(k:Bx N.T->Nat->Option R):Option R:=match Aw S x with
 | .loc b off=>match Rr b with
  |some (.Ah g l)=>match iT off (Se l),gf C l off (wC P t (Aw S y))with
   |true,Ac (e,n)=>match PA P t n with
    |true=>k ⟨.no,[],[(b, .Ah g e)]⟩ nk
    |false=>C7
   |_,_=>C7
  |_=>C7
 | .Ec b i off d z=>match Rr b,Mb N P t with
  |some (.row g a l),Ac c=>match TW C c (Aw S y)with
   |some u=>match setAt N 16 d z off c u,Qu N.T d a,bg 0 (c.sz N)with
    |some h,Ac f,Bp=>k ⟨.no,[],[(b, .row g a (l.set i.toNat (f h)))]⟩ nk
    |_,_,_=>C7
   |none=>C7
  |_,_=>C7
 |_=>C7
theorem nh{y:Dn}(J:o.op= .store t x y)(hW:∃τ,Ny Rr S τ)(h:zX P C S Rr nk t x y k=Ac r):A1 P C S Rr nk o k r:=by
 have E:∀ {η:Nat->BZ} {H:Hp} {a:Act},(∀x∈o.op.operands,(Aw S x).is C η H (a.eval x))->(Aw S x).is C η H (a.eval x):=λe=>e x (by grind[ax]);have F:∀ {η:Nat->BZ} {H:Hp} {a:Act},(∀x∈o.op.operands,(Aw S x).is C η H (a.eval x))->(Aw S y).is C η H (a.eval y):=λe=>e y (by grind[ax]);unfold zX at h;split at h
 ·rename_i b off K;split at h
  ·rename_i g l w;split at h
   ·rename_i l' n U G;split at h
    ·rename_i V;obtain⟨bytes,zv,p⟩:=Ds V;refine .set h w (Afv w (by simp) λη H O a X i e L s _=>?_) λ_ _=>trivial;obtain⟨B,I,e2⟩:(SV.loc b off:SV N.T).is C η H (a.eval x):=by grind
     obtain⟨B',cs,q,e4,s⟩:=s;rw[I]at q;have q:B=B':=by simpa [ptr]using q
     subst q;subst e4;have A:=Aan (Abc U) (Sb (cs:=cs.toList) s);obtain⟨Z,q2,q3,q4⟩:=VR (cs:=cs.toList) G A (Us (F e)) s;subst q3;rw[J];refine⟨_,⟨B,_,I,rfl,Z⟩,(BM.Rs (congrArg Ac e2) rfl rfl p rfl q4 L (by simpa using q2)).mono ?_⟩;rintro v H' O' ⟨rfl,rfl⟩;trivial
    grind
   grind
  grind
 ·rename_i b i off te z K;split at h
  ·rename_i g c l ty w ht;split at h
   ·rename_i u hu;split at h
    ·rename_i z' f hz hf h0;obtain⟨τ,Y⟩:=hW;have hw:D9 τ Rr (Aw S x):=L8 Y;rw[K]at hw;obtain⟨he,hi⟩:=hw g c l w;obtain⟨y',W,rfl⟩:=Pd.1 hi;have ee:=Adl he;subst ee;obtain⟨he2,rfl⟩:=BB hf;obtain⟨d,hd,hag,bytes,zv,p⟩:=Ke ht;refine .set h w (Afv w (by simp) λη H O a X j e L s _=>?_) λ_ _=>trivial;obtain⟨I,ad,n',c',e2⟩:(SV.Ec b i off c _:SV N.T).is C η H (a.eval x):=by rw[<-K];exact E e
     obtain⟨xs,q,M⟩:=s;subst q;obtain⟨k1,k2⟩:=CP (DL hu (F e));have D:=Bg k1;obtain⟨⟨hi0,NK⟩,m⟩:=Dh W;obtain⟨cs,g1,g2,g3⟩:=M.get m;obtain⟨Z,q2⟩:=EN hz g1 k1;have T:=Bg g1;rw[Bn]at g3;have Q:=M.len;rw[Bn]at Q;have hb2:i.toNat*c.sz N+c.sz N<=l.length*c.sz N:=by rw[<-Ady];exact Abi _ (by omega)
     rw[J];have hp:=M.part (off:=off) m (by rw[Bn];exact g3) (by rw[Bn];exact T) (by rw[Bn];omega) Z;rw[Bn]at hp;refine⟨.row (η b) g (c.sz N) l.length (Cy xs (i.toNat*c.sz N+off) (a.eval y).cells.toList),⟨_,by rw[Abp],hp⟩,(Ahf (congrArg Ac I) rfl rfl p D (by simpa using h0) k2 L (by omega)).mono ?_⟩;rintro v H' O' ⟨rfl,rfl⟩;exact⟨rfl,rfl,trivial⟩
    ·cases h
   ·cases h
  ·cases h
 grind
end
end
section
variable {N : C9} {R : Type} {P : GQ} {C : List (SV N.T)} {S : Nat -> SV N.T} {Rr : Nat -> Option (SR N.T)} {nk : Nat} {o : K_} {k : Bx N.T -> Nat -> Option R} {r : R}
section
variable{H:Hp}{x:Dn}{t:Gs}{η:Nat->BZ}{i:Nat}{y:Dn}{v:BZ}{b:Bool}
theorem Aiv{T:Gs}{E:Dn->Option BZ}{O:List Ax}{s off d:Nat}{c:Addr}(f:jK P s i off d)(h:E x=Ac (.pointer (Ac c))):Au P (.fieldAddr s x i) T E H O (.pointer (Ac (c.add off))):= .Ao λj w l g _ e _=>by have:=K8 (w:=w) (a:=c) f;simp_all[Kt]
def q6(P:GQ)(C:List (SV N.T))(S:Nat->SV N.T)(nk:Nat)(t:Gs)(x:Dn)(i:Nat)(k:Bx N.T->Nat->Option R):Option R:=match iG P t i with
 |some (off,_,m)=>match bg 0 m with
  |true=>match Aw S x with
   | .loc b q=>k ⟨.loc b (q+off),[],[]⟩ nk
   | .pd t y q=>k ⟨.pd t y (q+off),[],[]⟩ nk
   | .Ec b j q a z=>k ⟨.Ec b j (q+off) a z,[],[]⟩ nk
   |_=>C7
  |false=>C7
 |none=>C7
theorem pD(s:o.op= .fieldAddr t x i)(h:q6 P C S nk t x i k=Ac r):A1 P C S Rr nk o k r:=by
 have d:∀ {η:Nat->BZ} {H:Hp} {a:Act},(∀x∈o.op.operands,(Aw S x).is C η H (a.eval x))->(Aw S x).is C η H (a.eval x):=λe=>e x (by grind[ax]);unfold q6 at h;split at h
 ·rename_i off K m G;split at h
  ·rename_i I;obtain⟨w,rfl⟩:∃w,m=w+1:=⟨m-1,by simp at I;omega⟩;have u:=jK.of G;split at h
   ·rename_i b q g;refine .y h (Abu λη H O a e _=>?_) λ_ _=>trivial;obtain⟨B,f,p⟩:(SV.loc b q:SV N.T).is C η H (a.eval x):=by grind
    refine⟨ptr B (q+off),?_,B,f,rf⟩;rw[s];exact Ago u (congrArg Ac p) rf
   ·rename_i J y q g;refine .y h (Abu λη H O a e _=>?_) λ_ _=>trivial;obtain⟨l,n,D,f,E,F⟩:(SV.pd J y q:SV N.T).is C η H (a.eval x):=by rw[<-g];exact d e
    refine⟨.pointer (Ac ((l.add (n+q)).add off)),?_,l,n,D,?_,E,F⟩;· rw[s];exact Aiv u (congrArg Ac f)
    ·rw[C8,Adt]
   ·rename_i b j q A z g;refine .y h (Abu λη H O a e _=>?_) λτ v=>?_
    ·obtain⟨f,l,n,c,p⟩:(SV.Ec b j q A z:SV N.T).is C η H (a.eval x):=by rw[<-g];exact d e
     rw[p]at f;refine⟨.pointer (Ac ((l.add (j.toNat*A.sz N+q)).add off)),?_,?_,l,n,c,p⟩;· rw[s];exact Aiv u (congrArg Ac f)
     ·rw[p,C8,Adt];rfl
    ·have:=L8 (x:=x) v;rw[g]at this;exact this
   grind
  grind
 grind
def ixK(P:GQ)(S:Nat->SV N.T)(Rr:Nat->Option (SR N.T))(nk:Nat)(t:Gs)(x y:Dn)(k:Bx N.T->Nat->Option R):Option R:=match P.underlying t,intOf (Aw S y)with
 |some (.slice e),Ac (_,n)=>match Aw S x with
  | .d (.sl c) l=>match PA P e (c.sz N)with
   |true=>Ab (idx l n) λz=>k ⟨.pd c z 0,[],[]⟩ nk
   |false=>C7
  | .AH b=>match Rr b with
   |some (.row _ c l)=>match PA P e (c.sz N)with
    |true=>Ab (idx l n) λz=>k ⟨.Ec b n 0 c z,[b],[]⟩ nk
    |false=>C7
   |_=>C7
  |_=>C7
 |some (.array len e),Ac (_,n)=>match Aw S x,P.info? e with
  | .loc b q,Ac a=>match a.zero with
   |some _=>Ag (0<=n/\n<(len:Int)) (k ⟨.loc b (q+n.toNat*a.size),[],[]⟩ nk)
   |none=>C7
  |_,_=>C7
 |_,_=>C7
theorem nn(M:o.op= .indexAddr t x y)(h:ixK P S Rr nk t x y k=Ac r):A1 P C S Rr nk o k r:=by
 have p:∀ {η:Nat->BZ} {H:Hp} {a:Act},(∀x∈o.op.operands,(Aw S x).is C η H (a.eval x))->(Aw S x).is C η H (a.eval x):=λd=>d x (by grind[ax]);have s:∀ {η:Nat->BZ} {H:Hp} {a:Act},(∀x∈o.op.operands,(Aw S x).is C η H (a.eval x))->(Aw S y).is C η H (a.eval y):=λd=>d y (by grind[ax]);unfold ixK at h;split at h
 ·rename_i e kk n ht Z;split at h
  ·rename_i G l T;split at h
   ·rename_i hB;obtain⟨bytes,zv,E⟩:=Ds hB;obtain⟨z,F,h⟩:=Bi h;refine .y h (Abu λη H O a d _=>?_) λ_ _=>trivial;obtain⟨cs,⟨v,rfl,hv⟩,I⟩:(SV.d (.sl G) l:SV N.T).is C η H (a.eval x):=by grind
    have I:[v]=[a.eval x]:=I;cases I;have m:=AU Z (s d);obtain⟨cs,g1,g2⟩:=G8.get hv F;have W:=bK F;have D:∃f c,a.eval x= .slice (Ac f) l.length c:=by
     rcases hv.sl with⟨_,h0⟩|⟨f,c,e,_⟩;· omega
     ·exact⟨f,c,e⟩
    obtain⟨f,c,V⟩:=D;refine⟨AW (a.eval x) (n.toNat*G.sz N),?_,f,n.toNat*G.sz N,cs,by rw[V];rfl,g1,λj u hj=>?_⟩;· rw[M];exact Agf ht E rfl hv.sl (congrArg Ac m) W
    ·have:=g2 j u hj;rw[V,Bn]at this;exact this
   grind
  ·rename_i b T;split at h
   ·rename_i g G l W;split at h
    ·rename_i hB;obtain⟨bytes,zv,E⟩:=Ds hB;obtain⟨z,F,h⟩:=Bi h;refine .y h (λη H Of a w Y L A hi d hr hfr K Q hK=>?_) λτ _ g' t' l' J=>?_
     ·rcases hr b (.inl (by simp)) _ W with e|⟨X,h1,xs,m,hL⟩;· cases e
      subst m;obtain⟨i,h2,_⟩:=Jk Of L h1;have e1:a.eval x=η b:=by
       have:(SV.AH b:SV N.T).is C η H (a.eval x):=by rw[<-T];exact p d
       exact this.1
      have m:=AU Z (s d);have hbd:=bK F;have D:∃f c,η b= .slice (Ac f) l.length c:=by
       rcases(A.IM h2).1 with⟨_,h0⟩|⟨f,c,e,_⟩;· omega
       ·exact⟨f,c,e⟩
      obtain⟨f,c,V⟩:=D;have hop:Au P o.op o.type (EV a) H (Y.map (·.2)++Of) (AW (η b) (n.toNat*G.sz N)):=by rw[M];exact Akb ht E (congrArg Ac e1) h2 (congrArg Ac m) hbd
      refine Aet (hop a w o rfl rfl (λx u e=>by simpa using e) A) A λw' hw'=>?_;exact hK _ w' H η Y (Hp.le.refl H) (λ_ _=>rfl) (λ_ _=>rfl) (λk sr h=>by cases h) L (λk hk=> .inl hk) hw' ⟨rfl,f,l.length,c,V⟩
     ·rw[W]at J;cases J;exact⟨Ty.SO G,by rw[F];rfl⟩
    ·cases h
   ·cases h
  grind
 ·rename_i len e kk n ht Z;split at h
  ·rename_i b q U T hi;split at h
   ·rename_i z F;obtain⟨hc,h⟩:=AF h;refine .y h (Abu λη H O a d _=>?_) λ_ _=>trivial;obtain⟨B,e1,I⟩:(SV.loc b q:SV N.T).is C η H (a.eval x):=by rw[<-T];exact p d
    have m:=AU Z (s d);refine⟨ptr B (q+n.toNat*U.size),?_,B,e1,rfl⟩;rw[M];exact Au.wV (z:=z) ht ⟨U,hi,rfl,rfl,F⟩ (congrArg Ac I) (congrArg Ac m) hc rfl
   ·cases h
  ·cases h
 grind
def rR(P:GQ)(S:Nat->SV N.T)(nk:Nat)(t:Gs)(x y:Dn)(k:Bx N.T->Nat->Option R):Option R:=match P.underlying t,fj N .str (Aw S x),intOf (Aw S y)with
 |some .string,Ac s,Ac (_,n)=>Ab (Ez s n) λz=>k ⟨.d (.int .u8) z,[],[]⟩ nk
 |_,_,_=>C7
theorem lA{s:Aq}(h:(SV.d .str s:SV N.T).is C η H v):v=sv s:=by obtain⟨c,a,b⟩:=h;subst a;have b:[_]=[v]:=b;grind
theorem QL(h:(SV.d .bool b:SV N.T).is C η H v):v= .bool b:=by obtain⟨d,a,c⟩:=h;subst a;have c:[_]=[v]:=c;grind
theorem CS:(SV.d .bool b:SV N.T).is C η H (.bool b):=⟨[_],rfl,rfl⟩
theorem pH(b:o.op= .index t x y)(h:rR P S nk t x y k=Ac r):A1 P C S Rr nk o k r:=by
 unfold rR at h;split at h;· rename_i s l n j i g;obtain⟨z,d,h⟩:=Bi h;refine .y h (Abu λη H O a c _=>?_) λ_ _=>trivial;have e:=lA (I5 i (c x (by grind[ax])));have f:=AU g (c y (by simp_all[ax]));refine⟨.int .u8 z,?_,D6 (ij d).2⟩;rw[b];exact Ajw j (congrArg Ac e) (congrArg Ac f) d
 grind
end
end
section
variable {N : C9} {R : Type} {P : GQ} {C : List (SV N.T)} {S : Nat -> SV N.T} {Rr : Nat -> Option (SR N.T)} {nk : Nat} {o : K_} {k : Bx N.T -> Nat -> Option R} {r : R}
def OL(k:Lr)(m n:Int):Int:=k.wrap ((BitVec.ofInt k.bits m&&&BitVec.ofInt k.bits n).toNat:Int)
def XV(k:Lr)(m n:Int):Int:=k.wrap ((BitVec.ofInt k.bits m|||BitVec.ofInt k.bits n).toNat:Int)
def T'(k:Lr)(m n:Int):Int:=m.fdiv (2^min n.toNat k.bits)
def NQ(k:Lr)(m n:Int):Int:=m*2^min n.toNat k.bits
def qP(b:BinOp)(a:Lr)(m n:Int)(nk:Nat)(k:Bx N.T->Nat->Option R):Option R:=match b with
 | .add=>Aa a (m+n) (k ⟨.d (.int a) (m+n),[],[]⟩ nk)
 | .sub=>Aa a (m-n) (k ⟨.d (.int a) (m-n),[],[]⟩ nk)
 | .mul=>Aa a (m*n) (k ⟨.d (.int a) (m*n),[],[]⟩ nk)
 | .lss=>k ⟨.d .bool (Di (m<n)),[],[]⟩ nk
 | .leq=>k ⟨.d .bool (Di (m<=n)),[],[]⟩ nk
 | .gtr=>k ⟨.d .bool (Di (n<m)),[],[]⟩ nk
 | .geq=>k ⟨.d .bool (Di (n<=m)),[],[]⟩ nk
 | .eql=>k ⟨.d .bool (Di (m=n)),[],[]⟩ nk
 | .neq=>k ⟨.d .bool (Di (m≠n)),[],[]⟩ nk
 | .quo=>Ag (n≠0) (Aa a (m.tdiv n) (k ⟨.d (.int a) (m.tdiv n),[],[]⟩ nk))
 | .rem=>Ag (n≠0) (Aa a (m.tmod n) (k ⟨.d (.int a) (m.tmod n),[],[]⟩ nk))
 | .and=>Aa a (OL a m n) (k ⟨.d (.int a) (OL a m n),[],[]⟩ nk)
 | .or=>Aa a (XV a m n) (k ⟨.d (.int a) (XV a m n),[],[]⟩ nk)
 | .shr=>Ag (0<=n) (Aa a (T' a m n) (k ⟨.d (.int a) (T' a m n),[],[]⟩ nk))
 | .shl=>Ag (0<=n) (Aa a (NQ a m n) (k ⟨.d (.int a) (NQ a m n),[],[]⟩ nk))
 |_=>C7
section
variable {H : Hp} {O : List Ax} {E : Dn -> Option BZ} {T Tx Ty : Gs} {x y : Dn} {kk : Lr} {m n : Int}
section
variable{a b:Aq}
theorem Aib(e:E x=Ac (.int kk m))(f:E y=Ac (.int kk n))(h0:n≠0)(h:kk.min<=m.tdiv n/\m.tdiv n<=kk.max):Au P (.binOp .quo Tx x y Ty) T E H O (.int kk (m.tdiv n)):= .Ao λa w o d _ c _=>by simp_all[Kt,eqGuard,binOp,Op.intDiv,DX]
theorem Aia(e:E x=Ac (.int kk m))(f:E y=Ac (.int kk n))(h0:n≠0):Au P (.binOp .rem Tx x y Ty) T E H O (.int kk (m.tmod n)):= .Ao λa w o d _ c _=>by simp_all[Kt,eqGuard,binOp,Op.intDiv]
theorem Au.OL(e:E x=Ac (.int kk m))(f:E y=Ac (.int kk n)):Au P (.binOp .and Tx x y Ty) T E H O (.int kk (OL kk m n)):= .Ao λa w o d _ c _=>by simp_all[Kt,eqGuard,binOp,Op.intBits,GV.OL]
theorem Au.XV(e:E x=Ac (.int kk m))(f:E y=Ac (.int kk n)):Au P (.binOp .or Tx x y Ty) T E H O (.int kk (XV kk m n)):= .Ao λa w o d _ c _=>by simp_all[Kt,eqGuard,binOp,Op.intBits,GV.XV]
theorem Au.T'(e:E x=Ac (.int kk m))(f:E y=Ac (.int kk n))(h0:0<=n):Au P (.binOp .shr Tx x y Ty) T E H O (.int kk (T' kk m n)):= .Ao λa w o d _ c _=>by simp[Kt,d,c x _ e,c y _ f,eqGuard,binOp,Op.shift,GV.T',Agm.2 h0]
theorem Au.NQ(e:E x=Ac (.int kk m))(f:E y=Ac (.int kk n))(h0:0<=n)(h:kk.min<=NQ kk m n/\NQ kk m n<=kk.max):Au P (.binOp .shl Tx x y Ty) T E H O (.int kk (NQ kk m n)):= .Ao λa w o d _ c _=>by have:=DX h;unfold GV.NQ at this;simp[Kt,d,c x _ e,c y _ f,eqGuard,binOp,Op.shift,GV.NQ,Agm.2 h0,this]
theorem Akc(f:E x=Ac (sv a))(g:E y=Ac (sv b)):Au P (.binOp .leq Tx x y Ty) T E H O (.bool (rL a b||decide (a=b))):= .Ao λi w o e _ d _=>by
 have h:(a==b)=Di (a=b):=by grind
 simp_all[sv,Kt,eqGuard,binOp,xh]
theorem Ake(f:E x=Ac (sv a))(g:E y=Ac (sv b)):Au P (.binOp .gtr Tx x y Ty) T E H O (.bool (!(rL a b||decide (a=b)))):= .Ao λi w o e _ d _=>by
 have h:(a==b)=Di (a=b):=by grind
 simp_all[sv,Kt,eqGuard,binOp,xh]
theorem Ajy(f:E x=Ac (sv a))(g:E y=Ac (sv b)):Au P (.binOp .geq Tx x y Ty) T E H O (.bool (!Op.bytesLess a b)):= .Ao λh w o e _ d _=>by simp_all[sv,Kt,eqGuard,binOp,xh]
theorem Au.neg(f:E x=Ac (.int kk n))(h:kk.min<=0-n/\0-n<=kk.max):Au P (.unOp .neg Tx x) T E H O (.int kk (0-n)):= .Ao λa w o e _ d _=>by simp_all[Kt,Op.unary,Op.intArith,DX]
end
end
section
variable{s:SV N.T}{η:Nat->BZ}{H:Hp}{v:BZ}{x:Dn}{t:Gs}
def vW(b:BinOp)(m n:Aq)(nk:Nat)(k:Bx N.T->Nat->Option R):Option R:=match b with
 | .eql=>k ⟨.d .bool (Di (m=n)),[],[]⟩ nk
 | .neq=>k ⟨.d .bool (!decide (m=n)),[],[]⟩ nk
 | .lss=>k ⟨.d .bool (rL m n),[],[]⟩ nk
 | .leq=>k ⟨.d .bool (rL m n||decide (m=n)),[],[]⟩ nk
 | .gtr=>k ⟨.d .bool (!(rL m n||decide (m=n))),[],[]⟩ nk
 | .geq=>k ⟨.d .bool (!Op.bytesLess m n),[],[]⟩ nk
 | .add=>Ag (m.length+n.length<=Ai) (k ⟨.d .str (m++n),[],[]⟩ nk)
 |_=>C7
def jx(s:SV N.T):Option Bool:=fj N .bool s
def To(s:SV N.T):Option Aq:=fj N .str s
theorem U2{b:Bool}(h:jx s=Ac b)(a:s.is C η H v):v= .bool b:=QL (I5 (t:= .bool) h a)
theorem I4{b:Aq}(h:To s=Ac b)(a:s.is C η H v):v=sv b:=lA (I5 (t:= .str) h a)
def om:SV N.T->Option Int
 | .d (.int .u8) x=>Ac x
 |_=>C7
theorem Zv{n:Int}(h:om s=Ac n)(d:s.is C η H v):v= .int .u8 n/\0<=n/\n<=255:=by
 unfold om at h;split at h;· cases h;obtain⟨e,b,a⟩:=d;obtain⟨rfl,c⟩:=D4.1 b;cases a;trivial
 grind
def aG:SV N.T->Option Nat
 | .na n| .ct _ n| .cb _ n=>Ac n
 |_=>C7
theorem gI{n:Nat}(h:aG s=Ac n)(a:s.is C η H v):v= .int .i64 n/\n<=Re:=by
 unfold aG at h;split at h;· cases h;exact a
 ·cases h;exact a
 ·cases h;exact⟨a.1,Agj a.2⟩
 grind
def FL(b:BinOp)(x y:SV N.T):Option (SV N.T):=match b,x,y with
 | .lss, .ct i n, .na m=>Ac (.lt i n m)
 | .add, .cb _ n, .raw (.int .i64 1)=>Ac (.na (n+1))
 |_,_,_=>C7
theorem ja{b:BinOp}{x y:SV N.T}(h:FL b x y=Ac s):(∃i n m,b= .lss/\x= .ct i n/\y= .na m/\s= .lt i n m)\/(∃i n,b= .add/\x= .cb i n/\y= .raw (.int .i64 1)/\s= .na (n+1)):=by unfold FL at h;grind
def sg(
     P:GQ) (S:Nat->SV N.T) (nk:Nat) (b:BinOp) (t:Gs) (x y:Dn) (k:Bx N.T->Nat->Option R):Option R:=match FL b (Aw S x) (Aw S y)with
 |some s=>k ⟨s,[],[]⟩ nk
 |none=>match intOf (Aw S x),intOf (Aw S y)with
  |some (c,m),Ac (a,n)=>match kb c a with
   |true=>qP b c m n nk k
   |false=>C7
  |_,_=>match P.underlying t with
   |some .string=>match To (Aw S x),To (Aw S y)with
    |some m,Ac n=>vW b m n nk k
    |_,_=>C7
   |some .bool=>match jx (Aw S x),jx (Aw S y)with
    |some m,Ac n=>match b with
     | .eql=>k ⟨.d .bool (m==n),[],[]⟩ nk
     | .neq=>k ⟨.d .bool (!(m==n)),[],[]⟩ nk
     |_=>C7
    |_,_=>C7
   |_=>C7
theorem ok_int{b:BinOp}{t u:Gs}{x y:Dn}{i:Lr}{m n:Int}(v:o.op= .binOp b t x y u)(s:intOf (Aw S x)=Ac (i,m))(F:intOf (Aw S y)=Ac (i,n))(h:qP b i m n nk k=Ac r):A1 P C S Rr nk o k r:=by
 have w:∀ {η:Nat->BZ} {H:Hp} {a:Act},(∀x∈o.op.operands,(Aw S x).is C η H (a.eval x))->EV a x=Ac (.int i m):=λg=>congrArg Ac (AU s (g x (by grind[ax])));have A:∀ {η:Nat->BZ} {H:Hp} {a:Act},(∀x∈o.op.operands,(Aw S x).is C η H (a.eval x))->EV a y=Ac (.int i n):=λg=>congrArg Ac (AU F (g y (by grind[ax])));have p:∀ {c:Bool},k ⟨.d .bool c,[],[]⟩ nk=Ac r->(∀(H:Hp) (O:List Ax) (a:Act),EV a x=Ac (.int i m)->EV a y=Ac (.int i n)->Au P o.op o.type (EV a) H O (.bool c))->A1 P C S Rr nk o k r:=λh g=>
  .y h (Abu λη H O a s _=>⟨_,g H O a (w s) (A s),CS⟩) λ_ _=>trivial;have l:∀ {z:Int},Aa i z (k ⟨.d (.int i) z,[],[]⟩ nk)=Ac r->(∀(H:Hp) (O:List Ax) (a:Act),EV a x=Ac (.int i m)->EV a y=Ac (.int i n)->i.min<=z/\z<=i.max->Au P o.op o.type (EV a) H O (.int i z))->A1 P C S Rr nk o k r:=λh g=>by
  obtain⟨B,D,E⟩:=BV h;exact .y E (Abu λη H O a s _=>⟨_,g H O a (w s) (A s) B,D6 D⟩) λ_ _=>trivial
 rw[v]at p l;unfold qP at h;split at h;· grind[Au.add]
 ·grind[Au.sub]
 ·grind[Au.mul]
 ·exact p h λH O a e f=>Au.lss e f
 ·exact p h λH O a e f=>Au.leq e f
 ·exact p h λH O a e f=>Au.gtr e f
 ·exact p h λH O a e f=>Au.geq e f
 ·exact p h λH O a e f=>Au.eql e f
 ·exact p h λH O a e f=>Au.neq e f
 ·obtain⟨q,h⟩:=AF h;exact l h λH O a e f j=>Aib e f q j
 ·obtain⟨q,h⟩:=AF h;exact l h λH O a e f j=>Aia e f q
 ·exact l h λH O a e f j=>Au.OL e f
 ·exact l h λH O a e f j=>Au.XV e f
 ·obtain⟨q,h⟩:=AF h;exact l h λH O a e f j=>Au.T' e f q
 ·obtain⟨q,h⟩:=AF h;exact l h λH O a e f j=>Au.NQ e f q j
 grind
theorem pM{b:BinOp}{t u:Gs}{x y:Dn}(l:o.op= .binOp b t x y u)(h:sg P S nk b t x y k=Ac r):A1 P C S Rr nk o k r:=by
 have p:∀ {η:Nat->BZ} {H:Hp} {a:Act},(∀x∈o.op.operands,(Aw S x).is C η H (a.eval x))->(Aw S x).is C η H (a.eval x):=λe=>e x (by grind[ax]);have q:∀ {η:Nat->BZ} {H:Hp} {a:Act},(∀x∈o.op.operands,(Aw S x).is C η H (a.eval x))->(Aw S y).is C η H (a.eval y):=λe=>e y (by grind[ax]);unfold sg at h;split at h
 ·rename_i s hc;rcases ja hc with⟨i,n,m,rfl,f,j,rfl⟩|⟨i,n,rfl,f,j,rfl⟩
  ·refine .y h (Abu λη H O a e _=>?_) λτ F=>?_;· have w:=p e;rw[f]at w;have z:=q e;rw[j]at z;refine⟨_,?_,rf,z.2⟩;rw[l];exact Au.lss (congrArg Ac w.1) (congrArg Ac z.1)
   ·have:=L8 (x:=x) F;rw[f]at this;trivial
  ·refine .y h (Abu λη H O a e _=>?_) λ_ _=>trivial;have w:=p e;rw[f]at w;have z:=q e;rw[j]at z;have G:=w.2;refine⟨.int .i64 ((n:Int)+1),?_,rf,G⟩;rw[l];exact Au.add (congrArg Ac w.1) (congrArg Ac z) (UO (by grind))
 ·split at h
  ·grind[OO,ok_int]
  ·split at h
   ·rename_i D;split at h
    ·rename_i m n e E;have A:∀ {η:Nat->BZ} {H:Hp} {a:Act},(∀x∈o.op.operands,(Aw S x).is C η H (a.eval x))->EV a x=Ac (sv m):=λg=>congrArg Ac (I4 e (p g));have B:∀ {η:Nat->BZ} {H:Hp} {a:Act},(∀x∈o.op.operands,(Aw S x).is C η H (a.eval x))->EV a y=Ac (sv n):=λg=>congrArg Ac (I4 E (q g));have v:∀ {c:Bool},k ⟨.d .bool c,[],[]⟩ nk=Ac r->(∀(H:Hp) (O:List Ax) (a:Act),EV a x=Ac (sv m)->EV a y=Ac (sv n)->Au P o.op o.type (EV a) H O (.bool c))->A1 P C S Rr nk o k r:=λh g=>
      .y h (Abu λη H O a e _=>⟨_,g H O a (A e) (B e),CS⟩) λ_ _=>trivial;rw[l]at v;unfold vW at h;split at h;· exact v h λH O a f j=>Ahk D f j
     ·exact v h λH O a f j=>Akd D f j
     ·exact v h λH O a f j=>Ahj f j
     ·exact v h λH O a f j=>Akc f j
     ·exact v h λH O a f j=>Ake f j
     ·exact v h λH O a f j=>Ajy f j
     ·obtain⟨I,J⟩:=AF h;exact .y J (Abu λη H O a e _=>⟨sv (m++n),by rw[l];exact Akk (A e) (B e) I,[_],rfl,rfl⟩) λ_ _=>trivial
     trivial
    grind
   ·rename_i D;split at h
    ·rename_i m n e E;have A:∀ {η:Nat->BZ} {H:Hp} {a:Act},(∀x∈o.op.operands,(Aw S x).is C η H (a.eval x))->EV a x=Ac (.bool m):=λg=>congrArg Ac (U2 e (p g));have B:∀ {η:Nat->BZ} {H:Hp} {a:Act},(∀x∈o.op.operands,(Aw S x).is C η H (a.eval x))->EV a y=Ac (.bool n):=λg=>congrArg Ac (U2 E (q g));split at h;· exact .y h (Abu λη H O a e _=>⟨_,by rw[l];exact Aje D (A e) (B e),CS⟩) λ_ _=>trivial
     ·exact .y h (Abu λη H O a e _=>⟨_,by rw[l];exact Ajc D (A e) (B e),CS⟩) λ_ _=>trivial
     ·cases h
    ·cases h
   grind
def pU(S:Nat->SV N.T)(nk:Nat)(x:Dn)(k:Bx N.T->Nat->Option R):Option R:=match Aw S x with
 | .lb b=>k ⟨.lb (!b),[],[]⟩ nk
 |s=>match jx s with
  |some b=>k ⟨.d .bool (!b),[],[]⟩ nk
  |none=>C7
theorem o7(e:o.op= .unOp .not t x)(h:pU S nk x k=Ac r):A1 P C S Rr nk o k r:=by
 have c:∀ {η:Nat->BZ} {H:Hp} {a:Act},(∀x∈o.op.operands,(Aw S x).is C η H (a.eval x))->(Aw S x).is C η H (a.eval x):=λd=>d x (by grind[ax]);unfold pU at h;split at h;· rename_i b g;refine .y h (Abu λη H O a d _=>⟨.bool (!b),?_,rfl⟩) λ_ _=>trivial;have:=c d;rw[g]at this;rw[e];exact Au.not (congrArg Ac this)
 ·split at h;· rename_i b f;exact .y h (Abu λη H O a d _=>⟨_,by rw[e];exact Au.not (congrArg Ac (U2 f (c d))),CS⟩) λ_ _=>trivial
  grind
def p_(S:Nat->SV N.T)(nk:Nat)(x:Dn)(k:Bx N.T->Nat->Option R):Option R:=match intOf (Aw S x)with
 |some (a,n)=>Aa a (0-n) (k ⟨.d (.int a) (0-n),[],[]⟩ nk)
 |none=>C7
theorem pa{t:Gs}{x:Dn}(d:o.op= .unOp .neg t x)(h:p_ S nk x k=Ac r):A1 P C S Rr nk o k r:=by
 have b:∀ {η:Nat->BZ} {H:Hp} {a:Act},(∀x∈o.op.operands,(Aw S x).is C η H (a.eval x))->(Aw S x).is C η H (a.eval x):=λc=>c x (by grind[ax]);unfold p_ at h;split at h;· rename_i j n i;obtain⟨e,f,g⟩:=BV h;exact .y g (Abu λη H O a c _=>⟨_,by rw[d];exact Au.neg (congrArg Ac (AU i (b c))) e,D6 f⟩) λ_ _=>trivial
 grind
def qp(P:GQ)(S:Nat->SV N.T)(Rr:Nat->Option (SR N.T))(nk:Nat)(x:Dn)(t:Gs)(k:Bx N.T->Nat->Option R):Option R:=match P.underlying t with
 |some (.slice _)=>match Aw S x with
  | .d (.sl _) l=>k ⟨.na l.length,[],[]⟩ nk
  | .AH b=>match Rr b with
   |some (.row _ _ l)=>k ⟨.na l.length,[b],[]⟩ nk
   |_=>C7
  | .raw (.slice C7 0 0)=>k ⟨.na 0,[],[]⟩ nk
  |_=>C7
 |some .string=>match To (Aw S x)with
  |some s=>k ⟨.d (.int .i64) ((s.length:Nat):Int),[],[]⟩ nk
  |none=>C7
 |_=>C7
theorem pn(q:o.op= .call {callee:= .builtin .len,args:= #[x],argTypes:= #[t]})(h:qp P S Rr nk x t k=Ac r):A1 P C S Rr nk o k r:=by
 have c:∀ {η:Nat->BZ} {H:Hp} {a:Act},(∀x∈o.op.operands,(Aw S x).is C η H (a.eval x))->(Aw S x).is C η H (a.eval x):=λf=>f x (by grind[ax,Call.operands]);unfold qp at h;split at h
 ·rename_i e z;split at h
  ·rename_i I l j;refine .y h (Abu λη H O a f _=>?_) λ_ _=>trivial;obtain⟨cs,⟨v,rfl,G⟩,A⟩:(SV.d (.sl I) l:SV N.T).is C η H (a.eval x):=by grind
   have A:[v]=[a.eval x]:=A;cases A;exact⟨_,by rw[q];exact Au.len z rfl G.sl,rfl,G.le⟩
  ·rename_i b j;split at h
   ·rename_i g I l U;refine .y h (λη H E a w Y p d hi f Z V K Q T=>?_) λ_ _=>trivial;rcases Z b (.inl (by simp)) _ U with e|⟨X,M,xs,L,hL⟩;· grind
    subst L;obtain⟨i,F,_⟩:=Jk E p M;have J:a.eval x=η b:=by
     have:(SV.AH b:SV N.T).is C η H (a.eval x):=by grind
     exact this.1
    have B:Au P o.op o.type (EV a) H (Y.map (·.2)++E) (.int .i64 l.length):=by rw[q];exact Au.len z (congrArg Ac J) (d.IM F).1
    refine Aet (B a w o rfl rfl (λx u e=>by simpa using e) d) d λw' D=>?_;exact T _ w' H η Y (Hp.le.refl H) (λ_ _=>rfl) (λ_ _=>rfl) (λk sr h=>by cases h) p (λk W=> .inl W) D ⟨rfl,d.On F⟩
   grind
  ·rename_i j;refine .y h (Abu λη H O a f _=>?_) λ_ _=>trivial;have:=c f;rw[j]at this;exact⟨_,by rw[q];exact Au.len (n:=0) z rfl (.inl ⟨this,rfl⟩),rfl,Abe _⟩
  grind
 ·rename_i z;split at h;· rename_i s j;exact .y h (Abu λη H O a f _=>⟨_,by rw[q];exact Aii z (congrArg Ac (I4 j (c f))),D6 trivial⟩) λ_ _=>trivial
  ·cases h
 grind
def cvK(P:GQ)(S:Nat->SV N.T)(nk:Nat)(s d:Gs)(x:Dn)(k:Bx N.T->Nat->Option R):Option R:=match P.underlying s,P.underlying d with
 |some (.int _),Ac (.int a)=>match om (Aw S x),a with
  |some n, .i64=>k ⟨.d (.int .i64) n,[],[]⟩ nk
  |some n, .u8=>k ⟨.d (.int .u8) n,[],[]⟩ nk
  |_,_=>match aG (Aw S x),a with
   |some n, .i64=>k ⟨.na n,[],[]⟩ nk
   |_,_=>match intOf (Aw S x)with
    |some (_,n)=>Aa a n (k ⟨.d (.int a) n,[],[]⟩ nk)
    |none=>C7
 |_,_=>C7
theorem nq{s d:Gs}(i:o.op= .convert s d x)(h:cvK P S nk s d x k=Ac r):A1 P C S Rr nk o k r:=by
 have b:∀ {η:Nat->BZ} {H:Hp} {a:Act},(∀x∈o.op.operands,(Aw S x).is C η H (a.eval x))->(Aw S x).is C η H (a.eval x):=λt=>t x (by grind[ax]);unfold cvK at h;split at h
 ·rename_i w v l j;split at h;· rename_i n c;refine .y h (Abu λη H O a g _=>?_) λ_ _=>trivial;obtain⟨f,e⟩:=Zv c (b g);exact⟨.int .i64 n,by rw[i];exact Au.conv l j (congrArg Ac f) (UO (by omega)),D6 trivial⟩
  ·rename_i n c;refine .y h (Abu λη H O a g _=>?_) λ_ _=>trivial;obtain⟨f,e⟩:=Zv c (b g);exact⟨.int .u8 n,by rw[i];exact Au.conv l j (congrArg Ac f) (q7 e),D6 e⟩
  ·split at h;· rename_i n c _ _;refine .y h (Abu λη H O a g _=>?_) λ_ _=>trivial;obtain⟨f,e⟩:=gI c (b g);exact⟨.int .i64 n,by rw[i];exact Au.conv l j (congrArg Ac f) (UO (by grind)),rfl,e⟩
   ·split at h;· rename_i u n c;obtain⟨m,p,q⟩:=BV h;exact .y q (Abu λη H O a g _=>⟨_,by rw[i];exact Au.conv l j (congrArg Ac (AU c (b g))) m,D6 p⟩) λ_ _=>trivial
    grind
 grind
def rh(S:Nat->SV N.T)(nk:Nat)(x:Dn)(i:Nat)(k:Bx N.T->Nat->Option R):Option R:=match Aw S x,i with
 | .t2 a _,0=>k ⟨a,[],[]⟩ nk
 | .t2 _ b,1=>k ⟨b,[],[]⟩ nk
 | .t3 a _ _,0=>k ⟨a,[],[]⟩ nk
 | .t3 _ b _,1=>k ⟨b,[],[]⟩ nk
 | .t3 _ _ c,2=>k ⟨c,[],[]⟩ nk
 |_,_=>C7
def EY:SV N.T->Bool
 | .ct _ _| .cb _ _| .lt _ _ _| .Ec _ _ _ _ _=>Aj
 |_=>Bp
theorem DC{s:SV N.T}{τ:Nat->Nat}(h:EY s=Bp):D9 τ Rr s:=by cases s<;>first|trivial|cases h
theorem pE{i:Nat}(u:o.op= .extract x i)(h:rh S nk x i (λs n=>match EY s.sv with|true=>k s n|false=>C7)=Ac r):A1 P C S Rr nk o k r:=by
 have q:∀ {η:Nat->BZ} {H:Hp} {a:Act},(∀x∈o.op.operands,(Aw S x).is C η H (a.eval x))->(Aw S x).is C η H (a.eval x):=λd=>d x (by grind[ax]);have f:∀ {s:SV N.T},(match EY s with|true=>k ⟨s,[],[]⟩ nk|false=>C7)=Ac r->(∀ {η:Nat->BZ} {H:Hp} {a:Act},(Aw S x).is C η H (a.eval x)->∃t v,a.eval x= .tuple t/\t[i]?=Ac v/\s.is C η H v)->A1 P C S Rr nk o k r:=λ{s} h g=>by
  split at h;· rename_i D;refine .y h (Abu λη H O a d _=>?_) λ_ _=>DC D;obtain⟨t,v,w,A,B⟩:=g (q d);exact⟨v,by rw[u];exact Au.extract (congrArg Ac w) A,B⟩
  grind
 unfold rh at h;split at h;· rename_i a b j;exact f h λd=>by rw[j]at d;obtain⟨x,y,e,l,m⟩:=d;exact⟨_,_,e,rfl,l⟩
 ·rename_i a b j;exact f h λd=>by rw[j]at d;obtain⟨x,y,e,l,m⟩:=d;exact⟨_,_,e,rfl,m⟩
 ·rename_i a b c j;exact f h λd=>by rw[j]at d;obtain⟨x,y,z,e,l,m,p⟩:=d;exact⟨_,_,e,rfl,l⟩
 ·rename_i a b c j;exact f h λd=>by rw[j]at d;obtain⟨x,y,z,e,l,m,p⟩:=d;exact⟨_,_,e,rfl,m⟩
 ·rename_i a b c j;exact f h λd=>by rw[j]at d;obtain⟨x,y,z,e,l,m,p⟩:=d;exact⟨_,_,e,rfl,p⟩
 grind
end
end
end Go.GV
