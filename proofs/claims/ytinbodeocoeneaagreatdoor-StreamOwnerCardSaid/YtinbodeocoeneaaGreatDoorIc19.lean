/- Proof. Conditions: none. -/
import Derived.Test.YtinbodeocoeneaaGreatDoorIc18
namespace Go.Proofs.YtinbodeocoeneaaGreatDoor
open Go.Eng
set_option linter.all false
inductive Val where
 | mk (k n:Int) (s:ByteArray) (items:List Val) (keys:List ByteArray)
def Val.k:Val→Int | .mk k _ _ _ _=>k
def Val.n:Val→Int | .mk _ n _ _ _=>n
def Val.s:Val→ByteArray | .mk _ _ s _ _=>s
def Val.items:Val→List Val | .mk _ _ _ i _=>i
def Val.keys:Val→List ByteArray | .mk _ _ _ _ l=>l
section
variable (k n:Int) (s:ByteArray) (i:List Val) (l:List ByteArray)
theorem Val.k_mk:(Val.mk k n s i l).k=k:=rfl
theorem Val.n_mk:(Val.mk k n s i l).n=n:=rfl
theorem Val.s_mk:(Val.mk k n s i l).s=s:=rfl
theorem Val.items_mk:(Val.mk k n s i l).items=i:=rfl
theorem Val.keys_mk:(Val.mk k n s i l).keys=l:=rfl
end
theorem Val.eta (v:Val):Val.mk v.k v.n v.s v.items v.keys=v:=by cases v;rfl
theorem Val.ext {v w:Val} (h1:v.k=w.k) (h2:v.n=w.n) (h3:v.s=w.s) (h4:v.items=w.items) (h5:v.keys=w.keys):v=w:=by
 cases v;cases w
 simp only [Val.k_mk,Val.n_mk,Val.s_mk,Val.items_mk,Val.keys_mk] at *
 simp [*]
mutual
def valC:Val→List AV
 | .mk k n s i l=>[.i .i64 k,.i .i64 n,.s s,.ds (valsC i),.ds (stC l)]
def valsC:List Val→List (List AV)
 | []=>[]
 | v::r=>valC v::valsC r
end
theorem valsC_eq (l:List Val):valsC l=mapC valC l:=by
 induction l with
 | nil=>rfl
 | cons v l ih=>rw [valsC,mapC_cons,ih]
theorem valC_eq (v:Val):valC v=[.i .i64 v.k,.i .i64 v.n,.s v.s,.ds (mapC valC v.items),.ds (stC v.keys)]:=by
 cases v
 rw [valC,valsC_eq]
 rfl
def Val.av (v:Val):AV:=.ag (valC v)
theorem Val.av_eq (v:Val):v.av=.ag (valC v):=rfl
theorem Val.items_lt (v x:Val) (h:x∈v.items):SizeOf.sizeOf x<SizeOf.sizeOf v:=by
 cases v
 have:=List.sizeOf_lt_of_mem h
 simp only [Val.items_mk] at this
 simp
 omega
theorem Val.ind {Q:Val→Prop} (h:∀v,(∀x∈v.items,Q x)→Q v) (v:Val):Q v:=h v fun x hx=>Val.ind h x
termination_by SizeOf.sizeOf v
decreasing_by exact Val.items_lt v x hx
inductive Val.Fit:Val→Prop
 | mk (v:Val):v.items.length*80≤140737488355327→v.keys.length*16≤140737488355327→(∀x∈v.items,Val.Fit x)→Val.Fit v
theorem Val.Fit.i {v:Val} (h:v.Fit):v.items.length*80≤140737488355327:=by cases h;assumption
theorem Val.Fit.l {v:Val} (h:v.Fit):v.keys.length*16≤140737488355327:=by cases h;assumption
theorem Val.Fit.x {v:Val} (h:v.Fit) {x:Val} (hx:x∈v.items):x.Fit:=by cases h with | mk _ _ _ h=>exact h x hx
abbrev vx (v:Val):AV:=.ag [.i .i64 v.k,.i .i64 v.n,.s v.s,.ds (mapC valC v.items),.ds (stC v.keys)]
theorem snoc_val (l:List Val) (v:Val):mapC valC l++[[AV.i .i64 v.k,.i .i64 v.n,.s v.s,.ds (mapC valC v.items),.ds (stC v.keys)]]=mapC valC (l++[v]):=by rw [←valC_eq,mapC_snoc]
theorem take_snoc {α:Type} {l:List α} {j:Nat} {x:α} (h:l[j]?=some x):l.take j++[x]=l.take (j+1):=by rw [List.take_add_one,h];rfl
theorem rln_cons (m:Nat) (a:List AV) (l:List (List AV)):(∀e,e∈a::l→e.length=m)=(a.length=m∧∀e,e∈l→e.length=m):=propext ⟨fun h=>⟨h a (by simp),fun e he=>h e (by simp [he])⟩,fun h e he=>by
 rcases List.mem_cons.1 he with rfl | he
 .exact h.1
 .exact h.2 e he⟩
attribute [go_sem] rln_cons
theorem take_set {α:Type} (l:List α) (i:Nat) (x:α):(l.set i x).take l.length=l.set i x:=by rw [List.take_of_length_le (by simp)]
attribute [go_sem] take_set
theorem snoc_st (l:List ByteArray) (y:ByteArray):mapC st1 l++[[AV.s y]]=mapC st1 (l++[y]):=mapC_snoc st1 l y
theorem pos_sn (n:Nat):(0<n+1)=True:=by simp
attribute [go_sem] pos_sn
attribute [go_sem] snoc_st AV.one
attribute [go_sem] snoc_val vx
attribute [go_sem] valC_eq Val.av_eq Val.k_mk Val.n_mk Val.s_mk Val.items_mk Val.keys_mk
attribute [grind =] Val.k_mk Val.n_mk Val.s_mk Val.items_mk Val.keys_mk
theorem drop_at {α:Type} {l:List α} {j:Nat} {x:α} (h:l[j]?=some x):l.drop j=x::l.drop (j+1):=by
 obtain ⟨hj,rfl⟩:=List.getElem?_eq_some_iff.1 h
 exact List.drop_eq_getElem_cons hj
def ix (k:ByteArray):List ByteArray→Nat→Int
 | [],_=>-1
 | x::r,j=>if k=x then j else ix k r (j+1)
mutual
def wtV:Val→Nat
 | .mk _ _ _ i l=>1+wtL i+l.length
def wtL:List Val→Nat
 | []=>0
 | x::r=>wtV x+wtL r
end
theorem wtV_eq (v:Val):wtV v=1+wtL v.items+v.keys.length:=by cases v;rw [wtV];rfl
theorem wtV_pos (v:Val):1≤wtV v:=by rw [wtV_eq];omega
theorem wtL_mem {x:Val}:∀{l:List Val},x∈l→wtV x≤wtL l
 | y::r,h=>by
  rw [wtL]
  rcases List.mem_cons.1 h with rfl | h
  .omega
  .have:=wtL_mem h
   omega
theorem wtL_len:∀l:List Val,l.length≤wtL l
 | []=>by simp
 | y::r=>by
  have:=wtL_len r
  have:=wtV_pos y
  rw [wtL]
  simp
  omega
theorem wtV_fit (v:Val) (h:wtV v≤1000000000000):v.Fit:=by
 have:=Val.ind (Q:=fun v=>wtV v≤1000000000000→v.Fit) (fun v ih h=>by
  rw [wtV_eq] at h
  have:=wtL_len v.items
  exact .mk v (by omega) (by omega) fun x hx=>ih x hx (by have:=wtL_mem hx;omega)) v
 exact this h
def zVal:Val:=.mk 0 0 ⟨#[]⟩ [] []
noncomputable instance:DecidableEq Val:=fun _ _=>Classical.propDecidable _
end Go.Proofs.YtinbodeocoeneaaGreatDoor
