/- Proof. Conditions: none. -/
import Derived.Test.YtinbodeocoeneaaGreatDoorIc2
namespace Go.Eng
set_option linter.all false
inductive COp where
 | mv (x:Src)
 | pk (c a b:Src)
 | bd (z:List AV) (ps:List (Nat × Nat × Src))
 | ld (x:Src) (m:Nat) (ag:Bool)
 | bin (op:BinOp) (c:Nat) (x y:Src)
 | un (op:UnOp) (x:Src)
 | ci (k:IntKind) (x:Src)
 | cs (x:Src)
 | cb (x:Src)
 | mi (t:Nat) (x:Src)
 | mf (f:Nat) (xs:List Src)
 | fa (x:Src) (off:Nat)
 | fl (x:Src) (off m:Nat) (ag:Bool)
 | ia (x i:Src) (n:Nat)
 | ta (x:Src) (t:Nat) (z:AV)
 | ex (x:Src) (j:Nat)
 | ln (str:Bool) (x:Src)
 | eqs (neg:Bool) (ks:List Nat) (x y:Src)
 | sc (x:Src) (lo hi:Option Src) (n:Nat)
 | ss (x:Src) (lo hi:Option Src)
 | ix (x i:Src)
 | mm (mx:Bool) (x y:Src)
 | s0 (x:Src)
 | nc (x:Src)
 | nl (neg:Bool) (x:Src)
 | ai (x i:Src) (len m:Nat) (ag:Bool)
 | mk
 | lk (x s:Src) (ok:Bool) (z:AV)
 | mu (x s y:Src)
 | al (z:List AV)
 | alb (T e:Nat)
 | bo (x:Src)
 | st (x y:Src) (m:Nat)
 | bs (fz:Bool) (n:Nat) (ps:List Src)
 | ap (x y:Src) (n bytes:Nat)
 | aps (x y:Src)
 | ms (l c:Src) (n bytes:Nat) (z:List AV)
 | cl (f:Nat) (xs:List Src)
 | cc (f:Src) (xs:List Src)
def COp.isV:COp→Bool
 | .al _ | .alb _ _ | .bo _ | .st _ _ _ | .bs _ _ _ | .ap _ _ _ _ | .aps _ _ | .ms _ _ _ _ _ | .cl _ _ | .cc _ _ | .nl _ _ | .mk | .mu _ _ _=>false
 | _=>true
def COp.isC:COp→Bool
 | .cl _ _ | .cc _ _=>true
 | _=>false
def shlI (k:IntKind) (a b:Int):Int:=k.wrap (a*2 ^ (min b.toNat k.bits))
def shrI (k:IntKind) (a b:Int):Int:=a.fdiv (2 ^ (min b.toNat k.bits))
def andI (k:IntKind) (a b:Int):Int:=k.wrap (BitVec.ofInt k.bits a &&& BitVec.ofInt k.bits b).toNat
def orI (k:IntKind) (a b:Int):Int:=k.wrap (BitVec.ofInt k.bits a ||| BitVec.ofInt k.bits b).toNat
def xorI (k:IntKind) (a b:Int):Int:=k.wrap (BitVec.ofInt k.bits a ^^^ BitVec.ofInt k.bits b).toNat
def binI (op:BinOp) (k:IntKind) (a:Int) (k':IntKind) (b:Int):Option AV :=
 match op with
 | .shl=>some (.i k (shlI k a b))
 | .shr=>some (.i k (shrI k a b))
 | .add=>if k=k' then some (.i k (k.wrap (a+b))) else none
 | .sub=>if k=k' then some (.i k (k.wrap (a - b))) else none
 | .mul=>if k=k' then some (.i k (k.wrap (a*b))) else none
 | .quo=>if k=k' then some (.i k (k.wrap (a.tdiv b))) else none
 | .rem=>if k=k' then some (.i k (a.tmod b)) else none
 | .and=>if k=k' then some (.i k (andI k a b)) else none
 | .or=>if k=k' then some (.i k (orI k a b)) else none
 | .xor=>if k=k' then some (.i k (xorI k a b)) else none
 | .andNot=>none
 | .eql=>if k=k' then some (.b (decide (a=b))) else none
 | .neq=>if k=k' then some (.b (!decide (a=b))) else none
 | .lss=>if k=k' then some (.b (decide (a<b))) else none
 | .leq=>if k=k' then some (.b (decide (a≤b))) else none
 | .gtr=>if k=k' then some (.b (decide (b<a))) else none
 | .geq=>if k=k' then some (.b (decide (b≤a))) else none
def binS (op:BinOp) (a b:ByteArray):Option AV :=
 match op with
 | .add=>some (.s (a++b))
 | .eql=>some (.b (decide (a=b)))
 | .neq=>some (.b (!decide (a=b)))
 | .lss=>some (.b (Op.bytesLess a.toList b.toList))
 | .gtr=>some (.b (!(Op.bytesLess a.toList b.toList||decide (a=b))))
 | .leq=>some (.b (Op.bytesLess a.toList b.toList||decide (a=b)))
 | .geq=>some (.b (!(Op.bytesLess a.toList b.toList)))
 | _=>none
def eqB (op:BinOp) (e:Bool):Option AV :=
 match op with
 | .eql=>some (.b e)
 | .neq=>some (.b (!e))
 | _=>none
def binV (op:BinOp) (c:Nat):AV→AV→Option AV
 | .i k a,.i k' b=>if c=0 then binI op k a k' b else none
 | .s a,.s b=>if c=0 then binS op a b else none
 | .b a,.b b=>if c=1 then eqB op (a == b) else none
 | .np,.np=>if c=2 then eqB op true else none
 | .bx _ _,.np=>if c=2 then eqB op false else none
 | _,_=>none
def binP:BinOp→AV→AV→Prop
 | .quo,.i _ _,.i _ b=>b≠0
 | .rem,.i _ _,.i _ b=>b≠0
 | .shl,.i _ _,.i _ b=>0≤b
 | .shr,.i _ _,.i _ b=>0≤b
 | .add,.s a,.s b=>a.size+b.size≤9223372036854775807
 | _,_,_=>True
def unV:UnOp→AV→Option AV
 | .not,.b x=>some (.b (!x))
 | .neg,.i k n=>some (.i k (k.wrap (0 - n)))
 | _,_=>none
def byt:List (List AV)→Option (List UInt8)
 | []=>some []
 | [.i .u8 n]::r=>match byt r with
  | some l=>some (UInt8.ofNat n.toNat::l)
  | none=>none
 | _=>none
def bdl (f:Src→AV):List AV→List (Nat × Nat × Src)→Option (List AV)
 | z,[]=>some z
 | z,(off,m,s)::r=>match (f s).cl with
  | some cs=>if cs.length=m∧off+m≤z.length then bdl f (z.take off++cs++z.drop (off+m)) r else none
  | none=>none
def eqk:Nat→AV→AV→Option Bool
 | 0,.i k a,.i k' b=>if k=k' then some (decide (a=b)) else none
 | 1,.b a,.b b=>some (a == b)
 | 3,.s a,.s b=>some (decide (a=b))
 | _,_,_=>none
def eqc:List Nat→List AV→List AV→Option Bool
 | [],[],[]=>some true
 | k::ks,x::xs,y::ys=>match eqk k x y,eqc ks xs ys with
  | some e,some r=>some (e&&r)
  | _,_=>none
 | _,_,_=>none
def lenV (hp:CH) (str:Bool) (α:AV):Option Int :=
 match str with
 | true=>match α with
  | .s x=>some x.size
  | _=>none
 | false=>match sl hp α with
  | some l=>some l.length
  | none=>none
def intV:AV→Option Int
 | .i _ n=>some n
 | _=>none
def bndLo (f:Src→AV):Option Src→Option Int
 | none=>some 0
 | some s=>intV (f s)
def bndHi (f:Src→AV) (len:Int):Option Src→Option Int
 | none=>some len
 | some s=>intV (f s)
def cutV:AV→Nat→Nat→Option AV
 | .ds l,lo,hi=>some (.ds ((l.take hi).drop lo))
 | .e0,_,_=>some .e0
 | .rw k g _,0,hi=>some (.rw k g hi)
 | _,_,_=>none
def shd (hp:CH):AV→AV
 | .ds l=>.ds l
 | .e0=>.e0
 | .rw k g len=>match gc hp k with
  | .sh g' _ l=>if g=g'∧len≤l.length then .ds (l.take len) else .rw k g len
  | _=>.rw k g len
 | x=>x
def mfind (b:ByteArray):List (ByteArray × AV)→Option AV
 | []=>none
 | (x,α)::r=>if b=x then some α else mfind b r
def mput (b:ByteArray) (β:AV):List (ByteArray × AV)→List (ByteArray × AV)
 | []=>[(b,β)]
 | (x,α)::r=>if b=x then (b,β)::r else (x,α)::mput b β r
def lkV:Bool→AV→Option AV→AV
 | true,_,some α=>.tp [α,.b true]
 | true,z,none=>.tp [z,.b false]
 | false,_,some α=>α
 | false,z,none=>z
def pkV:AV→AV→AV→Option AV
 | .b x,.b y,.b z=>some (.b (bif x then y else z))
 | .b true,.b y,.un=>some (.b y)
 | .b false,.un,.b z=>some (.b z)
 | _,_,_=>none
def ncV:AV→Option AV
 | .bx k off=>some (.bx k off)
 | .ep α n i off=>some (.ep α n i off)
 | _=>none
def s0V:AV→Option AV
 | .ds _=>some .e0
 | .e0=>some .e0
 | .rw _ _ _=>some .e0
 | _=>none
def COp.val (hp:CH) (f:Src→AV):COp→Option AV
 | .mv x=>some (f x)
 | .pk c a b=>pkV (f c) (f a) (f b)
 | .bd z ps=>(bdl f z ps).map .ag
 | .ld x m ag=>(ldc hp m (f x)).map fun cs=>if ag then .ag cs else cs.getD 0 .un
 | .bin op c x y=>binV op c (f x) (f y)
 | .un op x=>unV op (f x)
 | .ci k x=>match f x with
  | .i _ n=>some (.i k (k.wrap n))
  | _=>none
 | .cs x=>match f x with
  | .s y=>some (.s y)
  | _=>none
 | .cb x=>match sl hp (f x) with
  | some l=>match byt l with
   | some b=>some (.s ⟨b.toArray⟩)
   | none=>none
  | none=>none
 | .mi t x=>some (.fc t (f x))
 | .mf g xs=>some (.fn g (xs.map f))
 | .fa x off=>fadr off (f x)
 | .fl x off m ag=>match f x with
  | .ag l=>if off+m≤l.length then some (if ag then .ag ((l.drop off).take m) else l.getD off .un) else none
  | _=>none
 | .ia x i n=>match f i with
  | .i _ j=>some (.ep (f x) n j.toNat 0)
  | _=>none
 | .ta x t z=>match f x with
  | .fc u y=>if u=t then some (.tp [y,.b true]) else some (.tp [z,.b false])
  | .ni=>some (.tp [z,.b false])
  | _=>none
 | .ex x j=>match f x with
  | .tp l=>l[j]?
  | _=>none
 | .ln str x=>(lenV hp str (f x)).map (.i .i64)
 | .eqs neg ks x y=>match f x,f y with
  | .ag l,.ag l'=>match eqc ks l l' with
   | some e=>some (.b (if neg then !e else e))
   | none=>none
  | _,_=>none
 | .sc x lo hi n=>match sl hp (f x) with
  | some l=>match bndLo f lo,bndHi f l.length hi with
   | some a,some b=>cutV (shd hp (f x)) a.toNat b.toNat
   | _,_=>none
  | none=>none
 | .ss x lo hi=>match f x with
  | .s y=>match bndLo f lo,bndHi f y.size hi with
   | some a,some b=>some (.s (y.extract a.toNat b.toNat))
   | _,_=>none
  | _=>none
 | .mm mx x y=>match f x,f y with
  | .i k a,.i k' b=>if k=k' then some (.i k (match mx with | true=>if a<b then b else a | false=>if b<a then b else a)) else none
  | _,_=>none
 | .ai x i len m ag=>match f x,f i with
  | .ag l,.i _ j=>if j.toNat*m+m≤l.length then some (if ag then .ag ((l.drop (j.toNat*m)).take m) else l.getD (j.toNat*m) .un) else none
  | _,_=>none
 | .s0 x=>s0V (f x)
 | .nc x=>ncV (f x)
 | .lk x s ok z=>match f x,f s with
  | .mp k,.s b=>match gc hp k with
   | .mp l=>some (lkV ok z (mfind b l))
   | _=>none
  | _,_=>none
 | .ix x i=>match f x,f i with
  | .s y,.i _ j=>some (.i .u8 ((y.data.toList.getD j.toNat 0).toNat))
  | _,_=>none
 | _=>none
def bndP (f:Src→AV) (len:Int) (lo hi:Option Src):Prop :=
 match bndLo f lo,bndHi f len hi with
 | some a,some b=>0≤a∧a≤b∧b≤len
 | _,_=>False
def COp.pre (hp:CH) (f:Src→AV):COp→Prop
 | .bin op c x y=>binP op (f x) (f y)
 | .ia x i n=>match f i,sl hp (f x) with
  | .i _ j,some l=>0≤j∧j.toNat<l.length
  | _,_=>False
 | .ai x i len m ag=>match f i with
  | .i _ j=>0≤j∧j<len
  | _=>False
 | .sc x lo hi n=>match sl hp (f x) with
  | some l=>bndP f l.length lo hi∧∀e∈l,e.length=n
  | none=>False
 | .ss x lo hi=>match f x with
  | .s y=>bndP f y.size lo hi
  | _=>False
 | .ix x i=>match f x,f i with
  | .s y,.i _ j=>0≤j∧j.toNat<y.size
  | _,_=>False
 | _=>True
/-! ### From the model's operations to compact ones -/
def osrc (N:Nat):Option Operand→Option (Option Src)
 | none=>some none
 | some x=>(csrc N x).map some
def srcs (N:Nat):List Operand→Option (List Src)
 | []=>some []
 | x::r=>match csrc N x,srcs N r with
  | some s,some l=>some (s::l)
  | _,_=>none
def bparts (P:Program) (N:Nat) (t:TypeId):List (Nat × Operand)→Option (List (Nat × Nat × Src))
 | []=>some []
 | (i,x)::r=>match tyFd P t i,csrc N x,bparts P N t r with
  | some fd,some s,some l=>match tySz P fd.type with
   | some z=>some ((fd.offset,z,s)::l)
   | none=>none
  | _,_,_=>none
def aparts (N z:Nat):List (Nat × Operand)→Option (List (Nat × Nat × Src))
 | []=>some []
 | (i,x)::r=>match csrc N x,aparts N z r with
  | some s,some l=>some ((i*z,z,s)::l)
  | _,_=>none
def fkinds (P:Program):Nat→List Field→Option (List Nat)
 | _,[]=>some []
 | o,f::r=>match P.underlying f.type,fkinds P (o+1) r with
  | some (.int _), some l => if f.offset = o ∧ f.name ≠ "_" then some (0 :: l) else none
  | some .string, some l => if f.offset = o ∧ f.name ≠ "_" then some (3 :: l) else none
  | some .bool, some l => if f.offset = o ∧ f.name ≠ "_" then some (1 :: l) else none
  | _,_=>none
def bcls (P:Program) (t:TypeId):Option Nat :=
 match P.underlying t with
 | some (.int _) | some .string=>some 0
 | some .bool=>some 1
 | some (.pointer _)=>some 2
 | _=>none
def inOrder:Nat→List (Nat × Operand)→Bool
 | _,[]=>true
 | k,(i,_)::r=>i == k&&inOrder (k+1) r
def isSpread (ops:List Oper) (d:Option Tmp):Bool :=
 match d with
 | none=>false
 | some t=>ops.any fun o=>match o.op with
  | .call c=>match c.callee,(c.args[1]?:Option Operand) with
   | .builtin .append,some (.tmp u)=>u == t
   | _,_=>false
  | _=>false
def passed (ops:List Oper):Nat→Tmp→Bool
 | 0,_=>false
 | k+1,t=>ops.any fun o=>match o.op with
  | .call c=>match c.callee with
   | .value (.func _)=>c.args.any fun x=>match x with
    | .tmp u=>u == t
    | _=>false
   | .builtin .append=>match (c.args[1]?:Option Operand) with
    | some (.tmp u)=>u == t
    | _=>false
   | _=>false
  | .build _ ps=>(ps.any fun p=>match p.2 with
    | .tmp u=>u == t
    | _=>false)&&match o.dst with
     | some u=>passed ops k u
     | none=>false
  | .buildSlice _ _ ps=>(ps.any fun p=>match p.2 with
    | .tmp u=>u == t
    | _=>false)&&match o.dst with
     | some u=>passed ops k u
     | none=>false
  | _=>false
def isPassed (ops:List Oper) (d:Option Tmp):Bool :=
 match d with
 | none=>false
 | some t=>passed ops 3 t
def sbZ:Value→Bool
 | .agg cs=>match cs.toList with
  | [.pointer none,.slice none 0 0]=>true
  | _=>false
 | _=>false
def sbT (P:Program) (t:TypeId):Option Nat :=
 match P.underlying t with
 | some (.struct fs)=>match fs.toList with
  | [f0,f1]=>match P.underlying f0.type,P.underlying f1.type with
   | some (.pointer t'),some (.slice e)=>if t'=t then some e else none
   | _,_=>none
  | _=>none
 | _=>none
def alC (P:Program) (t:TypeId) (z:Value):Option COp :=
 match sbZ z,sbT P t with
 | true,some e=>some (.alb t e)
 | _,_=>(cavs z.cells.toList).map .al
theorem sbZ_eq {z:Value} (h:sbZ z=true):z=.agg #[.pointer none,.slice none 0 0]:=by
 unfold sbZ at h
 split at h
 .rename_i cs
  split at h
  .rename_i e
   congr 1
   exact Array.ext' e
  .cases h
 .cases h
theorem alC_or {P:Program} {t:TypeId} {z:Value} {c:COp} (h:alC P t z=some c):(∃zl,cavs z.cells.toList=some zl∧c=.al zl)∨(∃e,c=.alb t e∧z=.agg #[.pointer none,.slice none 0 0]):=by
 unfold alC at h
 split at h
 .rename_i e hz _
  cases h
  exact .inr ⟨e,rfl,sbZ_eq hz⟩
 .cases ec:cavs z.cells.toList with
  | none=>rw [ec] at h;cases h
  | some zl=>rw [ec] at h;cases h;exact .inl ⟨zl,rfl,rfl⟩
def nlC:BinOp→Operand→Src→Option COp
 | .eql,.const (.slice none 0 0),x=>some (.nl false x)
 | .neq,.const (.slice none 0 0),x=>some (.nl true x)
 | _,_,_=>none
def cop (P:Program) (N:Nat) (ops:List Oper) (o:Oper):Option COp :=
 match o.op with
 | .move x | .assign x=>(csrc N x).map .mv
 | .pick c a b=>match csrc N c,csrc N a,csrc N b with
  | some c,some a,some b=>some (.pk c a b)
  | _,_,_=>none
 | .build t ps=>match P.info? t,P.underlying t,bparts P N t ps.toList with
  | some i,some (.struct fs),some l=>match i.zero,fs.toList.mapM (fun f=>(P.info? f.type).map fun i=>(f.offset,i.size)) with
   | some z,some _=>(cavs z.cells.toList).map fun z=>.bd z l
   | _,_=>none
  | some i,some (.array len e),_=>match i.zero,tySz P e with
   | some z,some n=>match aparts N n ps.toList with
    | some l=>(cavs z.cells.toList).map fun z=>.bd z l
    | none=>none
   | _,_=>none
  | _,_,_=>none
 | .load t x=>match tyA P t,csrc N x with
  | some (m,ag),some s=>if ag=false∧m≠1 then none else some (.ld s m ag)
  | _,_=>none
 | .binOp op t x y _=>match csrc N x,csrc N y with
  | some sx,some sy=>match bcls P t with
   | some c=>some (.bin op c sx sy)
   | none=>match P.underlying t with
    | some (.struct fs)=>match fkinds P 0 fs.toList,op with
     | some ks,.eql=>if P.stoodInHeld t=false∧P.eqGuardType P.depth t=false then some (.eqs false ks sx sy) else none
     | some ks,.neq=>if P.stoodInHeld t=false∧P.eqGuardType P.depth t=false then some (.eqs true ks sx sy) else none
     | _,_=>none
    | some (.slice _)=>nlC op y sx
    | _=>none
  | _,_=>none
 | .unOp op _ x=>(csrc N x).map (.un op)
 | .convert s d x=>match csrc N x,P.underlying s,P.underlying d with
  | some x,some _,some (.int k)=>some (.ci k x)
  | some x,some .string,some .string=>some (.cs x)
  | some x,some (.slice e),some .string=>match P.underlying e with
   | some (.int .u8)=>if tySz P e=some 1 then some (.cb x) else none
   | _=>none
  | _,_,_=>none
 | .makeInterface t x=>match csrc N x,P.underlying t with
  | some _,some (.interface _)=>none
  | some x,some _=>some (.mi t x)
  | _,_=>none
 | .makeFunc (.func f) first cap=>if first.isEmpty then (srcs N cap.toList).map (.mf f) else none
 | .typeAssert x _ t ok=>match csrc N x,P.underlying t,P.info? t with
  | some _,some (.interface _),_=>none
  | some x,some _,some i=>match i.zero with
   | some z=>if ok then (cav z).map (.ta x t) else none
   | none=>none
  | _,_,_=>none
 | .extract x j=>(csrc N x).map fun x=>.ex x j
 | .fieldAddr t x f=>match csrc N x,tyFd P t f with
  | some x,some fd=>match tySz P fd.type with
   | some z=>if z=0 then none else some (.fa x fd.offset)
   | none=>none
  | _,_=>none
 | .field t x f=>match csrc N x,tyFd P t f with
  | some x,some fd=>match tyA P fd.type with
   | some (m,ag)=>if ag=false∧m≠1 then none else some (.fl x fd.offset m ag)
   | none=>none
  | _,_=>none
 | .indexAddr t x i=>match csrc N x,csrc N i,tyEl P t with
  | some x,some i,some e=>(tySz P e).map (.ia x i)
  | _,_,_=>none
 | .index t x i=>match csrc N x,csrc N i,P.underlying t with
  | some x,some i,some .string=>some (.ix x i)
  | some x,some i,some (.array len e)=>match tyA P e with
   | some (m,ag)=>if ag=false∧m≠1 then none else some (.ai x i len m ag)
   | none=>none
  | _,_,_=>none
 | .slice t x lo hi none=>match csrc N x,osrc N lo,osrc N hi,P.underlying t with
  | some x,some lo,some hi,some (.slice e)=>(tySz P e).map (.sc x lo hi)
  | some x,some lo,some hi,some .string=>some (.ss x lo hi)
  | _,_,_,_=>none
 | .slice t x none (some hi) (some mx)=>match csrc N x,csrc N hi,csrc N mx,P.underlying t with
  | some x,some (.c (.i _ h)),some (.c (.i _ m)),some (.slice e)=>if h=0∧m=0 then (tySz P e).map fun _=>.s0 x else none
  | _,_,_,_=>none
 | .alloc t=>match P.info? t with
  | some i=>match i.zero with
   | some z=>alC P t z
   | none=>none
  | none=>none
 | .box _ x=>(csrc N x).map .bo
 | .store t x y=>match csrc N x,csrc N y,tySz P t with
  | some x,some y,some m=>some (.st x y m)
  | _,_,_=>none
 | .buildSlice t len ps=>match tyEl P t,srcs N (ps.toList.map (·.2)) with
  | some e,some l=>match tySz P e with
   | some n=>if inOrder 0 ps.toList∧ps.toList.length=len∧len*n≤16777216∧((P.info? e).bind (·.zero)).isSome∧n≠0 then some (.bs (isSpread ops o.dst||isPassed ops o.dst) n l) else none
   | none=>none
  | _,_=>none
 | .makeSlice t l c=>match csrc N l,csrc N c,tyEl P t with
  | some l,some c,some e=>match P.info? e with
   | some i=>match i.zero with
    | some z=>if z.cells.size=i.size then (cavs z.cells.toList).map (.ms l c i.size i.bytes) else none
    | none=>none
   | none=>none
  | _,_,_=>none
 | .nilCheck x=>(csrc N x).map .nc
 | .makeMap t none=>match P.underlying t with
  | some (.map k e)=>match P.underlying k with
   | some .string=>some .mk
   | _=>none
  | _=>none
 | .lookup t x ix ok=>match csrc N x,csrc N ix,P.underlying t with
  | some x,some ix,some (.map k e)=>match P.underlying k,P.info? e with
   | some .string,some i=>match i.zero with
    | some z=>(cav z).map (.lk x ix ok)
    | none=>none
   | _,_=>none
  | _,_,_=>none
 | .mapUpdate t m k x=>match csrc N m,csrc N k,csrc N x,P.underlying t with
  | some m,some s,some x,some (.map k e)=>match P.underlying k with
   | some .string=>some (.mu m s x)
   | _=>none
  | _,_,_,_=>none
 | .call c=>match c.callee with
  | .builtin .len=>match srcs N c.args.toList,c.argTypes.toList with
   | some [x],[t]=>match P.underlying t with
    | some .string=>some (.ln true x)
    | some (.slice _)=>some (.ln false x)
    | _=>none
   | _,_=>none
  | .builtin .append=>match srcs N c.args.toList,c.argTypes.toList with
   | some [x,y],[t,u]=>match tyEl P t,P.underlying u with
    | some e,some (.slice _)=>match P.info? e with
     | some i=>match i.zero with
      | some z=>if z.cells.size=i.size then some (.ap x y i.size i.bytes) else none
      | none=>none
     | none=>none
    | some e,some .string=>match P.info? e with
     | some i=>match i.zero with
      | some z=>if z.cells.size=i.size∧i.size=1∧i.bytes=1 then some (.aps x y) else none
      | none=>none
     | none=>none
    | _,_=>none
   | _,_=>none
  | .builtin .min=>match srcs N c.args.toList with
   | some [x,y]=>some (.mm false x y)
   | _=>none
  | .builtin .max=>match srcs N c.args.toList with
   | some [x,y]=>some (.mm true x y)
   | _=>none
  | .value (.func f)=>(srcs N c.args.toList).map (.cl f)
  | .value x=>match csrc N x,srcs N c.args.toList with
   | some x,some l=>some (.cc x l)
   | _,_=>none
  | _=>none
 | _=>none
/-! ### Laws of single operations -/
theorem run_value {P:Program} {w w':World} {s:Sem Value} {v:Value} (h:s.run P w=.ok v w'):(do pure (Next.value (←s)):Sem Next).run P w=.ok (.value v) w':=by
 simp [Sem.run_bind,h]
theorem toList_inj {a b:ByteArray} (h:a.toList=b.toList):a=b:=by
 rw [ByteArray.toList_eq,ByteArray.toList_eq] at h
 cases a
 cases b
 congr
 exact Array.ext' h
theorem toList_beq (a b:ByteArray):(a.toList == b.toList)=decide (a=b):=by
 by_cases h:a=b
 .subst h
  simp
 .have:¬a.toList=b.toList:=fun e=>h (toList_inj e)
  simp [h,this]
theorem int_beq (a b:Int):(a == b)=decide (a=b):=by by_cases h:a=b<;>simp [h]
theorem run_equalIn_nn {P:Program} (w:World) (d:Nat) {t e:TypeId} (hu:P.underlying t=some (.pointer e)):(Op.equalIn (d+1) t (.pointer none) (.pointer none)).run P w=.ok true w:=by
 simp [Op.equalIn,run_underlying hu]
theorem run_equalIn_an {P:Program} (w:World) (d:Nat) {t e:TypeId} (a:Addr) (hu:P.underlying t=some (.pointer e)):(Op.equalIn (d+1) t (.pointer (some a)) (.pointer none)).run P w=.ok false w:=by
 simp [Op.equalIn,run_underlying hu]
theorem binV_sound {P:Program} {h:HP} {ρ:RO} {w:World} {op:BinOp} {t:TypeId} {c:Nat} {x y:Operand} (hc:bcls P t=some c) {α β γ:AV} {u v:Value}
  (ru:Rel h ρ α u) (rv:Rel h ρ β v) (hp:binP op α β) (hv:binV op c α β=some γ) :
  ∃z,(do eqGuard op t x y u v;binOp op t u v:Sem Value).run P w=.ok z w∧Rel h ρ γ z:=by
 have hu1:c=1→P.underlying t=some .bool:=by
  intro e;subst e;unfold bcls at hc;split at hc<;>simp_all
 have hu2:c=2→∃e,P.underlying t=some (.pointer e):=by
  intro e;subst e;unfold bcls at hc;split at hc<;>simp_all
 have hi:∀(k:IntKind) (n:Int),Rel h ρ (.i k n) (.int k n):=fun k n=>.pu _ _ (.i k n)
 have hbb:∀(b:Bool),Rel h ρ (.b b) (.bool b):=fun b=>.pu _ _ (.b b)
 have hss:∀(b:ByteArray),Rel h ρ (.s b) (.string b):=fun b=>.pu _ _ (.s b)
 have fin:∀e,(Op.equal t u v).run P w=.ok e w→eqGuard op t x y u v=pure ()→(op=.eql→binOp op t u v=(do pure (.bool (←Op.equal t u v)))) →
   (op=.neq→binOp op t u v=(do pure (.bool (!(←Op.equal t u v)))))→eqB op e=some γ→∃z,(do eqGuard op t x y u v;binOp op t u v:Sem Value).run P w=.ok z w∧Rel h ρ γ z:=by
  intro e he hg h1 h2 hq
  rw [hg]
  cases op<;>simp [eqB] at hq
  .subst hq
   refine ⟨_,?_,hbb _⟩
   rw [h1 rfl]
   simp [he]
  .subst hq
   refine ⟨_,?_,hbb _⟩
   rw [h2 rfl]
   simp [he]
 unfold binV at hv
 split at hv
 .rename_i k a k' b
  split at hv
  .rename_i hc0
   subst hc0
   obtain rfl:=ru.int
   obtain rfl:=rv.int
   cases op<;>simp [binI] at hv
   case quo=>obtain ⟨rfl,rfl⟩:=hv;refine ⟨_,?_,hi _ _⟩;simp [binOp_quo,eqGuard_at_int,Op.intDiv,show b≠0 from hp]
   case rem=>obtain ⟨rfl,rfl⟩:=hv;refine ⟨_,?_,hi _ _⟩;simp [binOp_rem,eqGuard_at_int,Op.intDiv,show b≠0 from hp]
   case shl=>obtain rfl:=hv;refine ⟨_,?_,hi _ _⟩;simp [binOp_shl,eqGuard_at_int,Op.shift,shlI,show ¬b<0 from Int.not_lt.2 hp]
   case shr=>obtain rfl:=hv;refine ⟨_,?_,hi _ _⟩;simp [binOp_shr,eqGuard_at_int,Op.shift,shrI,show ¬b<0 from Int.not_lt.2 hp]
   case eql=>obtain ⟨rfl,rfl⟩:=hv;refine ⟨_,?_,hbb _⟩;simp [binOp_eql,eqGuard_at_int,int_beq]
   case neq=>obtain ⟨rfl,rfl⟩:=hv;refine ⟨_,?_,hbb _⟩;simp [binOp_neq,eqGuard_at_int,bne,int_beq]
   case lss=>obtain ⟨rfl,rfl⟩:=hv;refine ⟨_,?_,hbb _⟩;simp [binOp_lss,eqGuard_at_int]
   case leq=>obtain ⟨rfl,rfl⟩:=hv;refine ⟨_,?_,hbb _⟩;simp [binOp_leq,eqGuard_at_int]
   case gtr=>obtain ⟨rfl,rfl⟩:=hv;refine ⟨_,?_,hbb _⟩;simp [binOp_gtr,eqGuard_at_int]
   case geq=>obtain ⟨rfl,rfl⟩:=hv;refine ⟨_,?_,hbb _⟩;simp [binOp_geq,eqGuard_at_int]
   all_goals
    obtain ⟨rfl,rfl⟩:=hv
    refine ⟨_,?_,hi _ _⟩
    simp [binOp,eqGuard_at_int,Op.intArith,Op.intBits,andI,orI,xorI]
    done
  .cases hv
 .rename_i a b
  split at hv
  .rename_i hc0
   subst hc0
   obtain rfl:=ru.str
   obtain rfl:=rv.str
   cases op<;>simp [binS] at hv
   case add =>
    obtain rfl:=hv
    have hp':a.size+b.size≤9223372036854775807:=hp
    refine ⟨_,?_,hss _⟩
    have:¬(((a.size+b.size:Nat):Int) > IntKind.i64.max):=by
     have:IntKind.i64.max=9223372036854775807:=by decide
     rw [this]
     omega
    simp only [binOp,Op.stringOp,eqGuard_at_string]
    rw [if_neg this]
    rfl
   all_goals
    obtain rfl:=hv
    refine ⟨_,?_,hbb _⟩
    simp [binOp,Op.stringOp,eqGuard_at_string,toList_beq]
    done
  .cases hv
 .rename_i a b
  split at hv
  .rename_i hc0
   obtain rfl:=ru.bool
   obtain rfl:=rv.bool
   exact fin _ (run_equalIn_bool' (P:=P) w 9999 t a b (hu1 hc0)) (eqGuard_at_bool ..) (fun e=>by subst e;rfl) (fun e=>by subst e;rfl) hv
  .cases hv
 .split at hv
  .rename_i hc0
   obtain ⟨e,hu⟩:=hu2 hc0
   have e1:u=.pointer none:=by cases ru with | pu _ _ p=>cases p;rfl
   have e2:v=.pointer none:=by cases rv with | pu _ _ p=>cases p;rfl
   subst e1
   subst e2
   exact fin true (run_equalIn_nn w 9999 hu) (eqGuard_at_pointer ..) (fun e=>by subst e;rfl) (fun e=>by subst e;rfl) hv
  .cases hv
 .split at hv
  .rename_i hc0
   obtain ⟨e,hu⟩:=hu2 hc0
   obtain ⟨a,e1⟩:∃a,u=.pointer (some a):=by cases ru with | pu _ _ p=>cases p | bx _ _ b c e=>exact ⟨_,rfl⟩
   have e2:v=.pointer none:=by cases rv with | pu _ _ p=>cases p;rfl
   subst e1
   subst e2
   exact fin false (run_equalIn_an w 9999 a hu) (eqGuard_at_pointer ..) (fun e=>by subst e;rfl) (fun e=>by subst e;rfl) hv
  .cases hv
 .cases hv
def obl (env:EN) (p:Prop):List Src→Prop
 | []=>True
 | s::r=>ob p (s.ev env)∧obl env p r
def obo (env:EN) (p:Prop):Option Src→Prop
 | none=>True
 | some s=>ob p (s.ev env)
def COp.obs (env:EN) (p:Prop):COp→Prop
 | .pk c a b=>ob p (c.ev env)∧match fet (c.ev env) with
  | .b x=>ob (p∧x=true) (a.ev env)∧ob (p∧x=false) (b.ev env)
  | _=>¬p
 | .mv x | .ld x _ _ | .un _ x | .ci _ x | .cs x | .cb x | .mi _ x | .fa x _ | .fl x _ _ _ | .ta x _ _ | .ex x _ | .ln _ x | .bo x | .s0 x | .nc x | .nl _ x=>ob p (x.ev env)
 | .bd _ ps=>obl env p (ps.map (·.2.2))
 | .bin _ _ x y | .ia x y _ | .eqs _ _ x y | .ix x y | .ai x y _ _ _ | .mm _ x y | .lk x y _ _ | .st x y _ | .ap x y _ _ | .aps x y | .ms x y _ _ _=>ob p (x.ev env)∧ob p (y.ev env)
 | .mf _ xs | .bs _ _ xs | .cl _ xs=>obl env p xs
 | .sc x lo hi _ | .ss x lo hi=>ob p (x.ev env)∧obo env p lo∧obo env p hi
 | .al _ | .alb _ _ | .mk=>True
 | .mu x s y=>ob p (x.ev env)∧ob p (s.ev env)∧ob p (y.ev env)
 | .cc x xs=>ob p (x.ev env)∧obl env p xs
section
variable {P:Program} {C:Ctx} {st:St} {h:HP} {ρ:RO} {a:Act} {w:World} (S:Sat C st h ρ a w) {p:Prop} (hp:p)
include S hp
theorem src_rel {x:Operand} {s:Src} (e:csrc C.N x=some s) (o:ob p (s.ev st.env)):Rel h ρ (fet (s.ev st.env)) (a.eval x):=fet_rel (csrc_rel S e) hp o
theorem srcs_rel {xs:List Operand} {l:List Src} (e:srcs C.N xs=some l) (o:obl st.env p l):RelL h ρ (l.map fun s=>fet (s.ev st.env)) (xs.map a.eval):=by
 induction xs generalizing l with
 | nil=>simp [srcs] at e;subst e;exact .nil
 | cons x xs ih =>
  unfold srcs at e
  split at e
  .rename_i s l' e1 e2
   cases e
   exact .cons (src_rel S hp e1 o.1) (ih e2 o.2)
  .cases e
end
theorem setBlk {off:Nat}:∀(cs:List Value) (k:Nat) (cells:Array Value),off+k+cs.length≤cells.size →
  ((cs.zipIdx k).foldl (fun (x:Array Value) (c:Value × Nat)=>x.setIfInBounds (off+c.2) c.1) cells).size=cells.size ∧
  ∀j:Nat,((cs.zipIdx k).foldl (fun (x:Array Value) (c:Value × Nat)=>x.setIfInBounds (off+c.2) c.1) cells)[j]?=if off+k≤j∧j<off+k+cs.length then cs[j - (off+k)]? else cells[j]?:=by
 intro cs
 induction cs with
 | nil =>
  intro k cells _
  refine ⟨rfl,fun j=>?_⟩
  have:¬(off+k≤j∧j<off+k+0):=by omega
  simp
  omega
 | cons c cs ih =>
  intro k cells hk
  simp only [List.length_cons] at hk
  simp only [List.zipIdx_cons,List.foldl_cons,List.length_cons]
  obtain ⟨i1,i2⟩:=ih (k+1) (cells.setIfInBounds (off+k) c) (by simp;omega)
  refine ⟨by rw [i1];simp,fun j=>?_⟩
  rw [i2 j,Array.getElem?_setIfInBounds]
  by_cases c1:j=off+k
  .subst c1
   rw [if_neg (by omega),if_pos rfl,if_pos (by omega),if_pos (by omega)]
   simp
  .by_cases c2:off+(k+1)≤j∧j<off+(k+1)+cs.length
   .rw [if_pos c2,if_pos (by omega)]
    rw [show j - (off+k)=(j - (off+(k+1)))+1 by omega]
    simp
   .rw [if_neg c2,if_neg (by omega),if_neg (by omega)]
theorem fill_rel {h:HP} {ρ:RO} {a:Act} {f:Src→AV} {places:Nat→Option (Nat × Nat)} :
    ∀(ps:List (Nat × Nat × Src)) (vs:List (Nat × Value)) (z:List AV) (cells:Array Value) (out:List AV),
      ps.length=vs.length→(∀(j:Nat) q i v,ps[j]?=some q→vs[j]?=some (i,v)→places i=some (q.1,q.2.1)∧Rel h ρ (f q.2.2) v) →
      RelL h ρ z cells.toList→bdl f z ps=some out→∃cs,Instr.fill places cells vs=some cs∧RelL h ρ out cs.toList:=by
  intro ps
  induction ps with
  | nil =>
    intro vs z cells out hl _ hz hb
    cases vs with
    | nil => simp [bdl] at hb; subst hb; exact ⟨cells, rfl, hz⟩
    | cons => simp at hl
  | cons q ps ih =>
    intro vs z cells out hl hx hz hb
    cases vs with
    | nil => simp at hl
    | cons v vs =>
      obtain ⟨i,v⟩:=v
      obtain ⟨off,m,s⟩:=q
      obtain ⟨hpl0,hr⟩:=hx 0 (off,m,s) i v rfl rfl
      have hpl:places i=some (off,m):=hpl0
      unfold bdl at hb
      split at hb
      . rename_i cs hcs
        split at hb
        . rename_i hc
          have hrc:=AV.cl_rel hr hcs
          have hsz : v.cells.size = m := by have := hrc.1; simp at this; omega
          have hzl:=hz.1
          simp only [Array.length_toList] at hzl
          simp only [Instr.fill,hpl]
          have hcond : ¬ ((decide (v.cells.size ≠ m) || decide (off + v.cells.size > cells.size)) = true) := by simp; omega
          rw [if_neg hcond]
          obtain ⟨s1, s2⟩ := setBlk (off := off) v.cells.toList 0 cells (by simp; omega)
          have ef : v.cells.zipIdx.foldl (fun (cs : Array Value) (x : Value × Nat) => cs.setIfInBounds (off + x.2) x.1) cells = (v.cells.toList.zipIdx 0).foldl (fun (x : Array Value) (c : Value × Nat) => x.setIfInBounds (off + c.2) c.1) cells := by
            rw [←Array.foldl_toList,Array.toList_zipIdx]
          rw [ef]
          refine ih vs _ _ out (by simpa using hl) (fun j q i v h1 h2 => hx (j + 1) q i v (by simpa using h1) (by simpa using h2)) ?_ hb
          have hlen:cs.length=v.cells.toList.length:=hrc.1
          have hlen2 : cs.length = v.cells.size := by simpa using hlen
          refine ⟨by simp only [Array.length_toList, s1]; simp; omega, fun j α u h1 h2 => ?_⟩
          rw [Array.getElem?_toList,s2 j] at h2
          simp only [List.append_assoc,List.getElem?_append,List.length_take,List.getElem?_take,List.getElem?_drop] at h1
          rw [show min off z.length = off by omega] at h1
          simp only [Array.length_toList] at h2
          by_cases c1:j<off
          . rw [if_pos c1, if_pos c1] at h1
            rw [if_neg (by omega)] at h2
            exact hz.2 j α u h1 (by simpa using h2)
          . rw [if_neg c1] at h1
            by_cases c2:j - off<cs.length
            . rw [if_pos c2] at h1
              rw [if_pos (by omega)] at h2
              exact hrc.2 _ α u h1 h2
            . rw [if_neg c2, show off + m + (j - off - cs.length) = j by omega] at h1
              rw [if_neg (by omega)] at h2
              exact hz.2 j α u h1 (by simpa using h2)
        . cases hb
      . cases hb
theorem byt_inv:∀(l:List (List AV)) (b:List UInt8),byt l=some b→∃xs:List Int,l=xs.map (fun n=>[AV.i .u8 n])∧b=xs.map (fun n=>UInt8.ofNat n.toNat):=by
 intro l
 induction l with
 | nil=>intro b hb;simp [byt] at hb;subst hb;exact ⟨[],rfl,rfl⟩
 | cons e l ih =>
  intro b hb
  unfold byt at hb
  split at hb
  .rename_i e1;cases e1
  .rename_i n r e1
   cases e1
   split at hb
   .rename_i l' hl'
    cases hb
    obtain ⟨xs,rfl,rfl⟩:=ih l' hl'
    exact ⟨n::xs,rfl,rfl⟩
   .cases hb
  .cases hb
end Go.Eng
