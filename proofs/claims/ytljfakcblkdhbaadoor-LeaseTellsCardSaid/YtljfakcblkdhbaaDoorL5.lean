/- The general part of the proofs (no program in sight): worlds with shared blocks, regions, operations, calls, loops, what comes in as data, part 5 -/
import Derived.Test.YtljfakcblkdhbaaDoorL4
set_option linter.unusedVariables false
set_option linter.unusedSimpArgs false
/- General part of the proofs: the evaluator: regions and control. -/
namespace Go.Gb
variable {T:Tb} {R:Type}

abbrev OpL:=List (Nat × Oper)
/-- the operations up to the next one with this guard -/
def spanG (g:Option (Nat × Bool)):OpL → OpL × OpL
  | []=>([],[])
  | x::l=>if x.2.guard = g then ([],x::l) else ((x::(spanG g l).1),(spanG g l).2)
/-- never without a value -/
def isTot (o:Oper):Bool:=match o.op with
  | .move _ | .assign _ | .load _ _ | .fieldAddr _ _ _ | .nilCheck _ | .pick _ _ _ | .extract _ _ | .unOp .not _ _ | .convert _ _ _ | .build _ _ | .buildSlice _ _ _=>true
  | .binOp .lss _ _ _ _ | .binOp .leq _ _ _ _ | .binOp .gtr _ _ _ _ | .binOp .geq _ _ _ _ | .binOp .eql _ _ _ _ | .binOp .neq _ _ _ _ | .binOp .and _ _ _ _=>true
  | .call c => match c.callee with
    | .builtin .len | .builtin .max | .builtin .min=>true
    | _=>false
  | _=>false
def isRes:AV T → Bool
  | .own _ _ _ _=>true
  | .box _ _ _=>true
  | .rs _ _ _=>true
  | .tr _ _ _ _=>true
  | _=>false
/-- .. if it is wanted here -/
def rdepU (C:Cx T) (f:FuncId) (dst:Option Nat):Option (FnR T):=
  match rdep C.rdeps f with
  | some q=>bif (dep C.deps f).isSome && (match dst with | some d=>!(C.own.contains d) | none=>true) then none else some q
  | none=>none
/-- an operation that writes, or makes what is written to -/
def isMut (C:Cx T) (e:Env T) (o:Oper):Bool:=
  match o.dst with
  | none=>true
  | some d => isRes (lk e d) || match o.op with
    | .store _ _ _=>true
    | .alloc _=>true
    | .makeSlice _ _ _=>true
    | .box _ _=>C.own.contains d
    | .assign x=>C.own.contains d && (match x with | .tmp t=>(match lk e t with | .al _=>true | a=>isRes a) | _=>false)
    | .buildSlice _ _ _=>C.own.contains d
    | .call c => match c.callee with
      | .builtin .append=>C.own.contains d || (match c.args.toList with | x::_=>isRes (res e (opv e x)) | _=>false)
      | .value (.func f)=>(rdepU C f (some d)).isSome
      | .value (.tmp s)=>(match lk e s with | .mv _ _=>true | _=>false)
      | _=>false
    | .extract x 0=>(match mvv e x with | .al _=>true | _=>false)
    | _=>false
def dstOf (ops:List Oper) (j:Nat):Option Nat:=(nth ops j).bind (·.dst)
def lastIdx (t:Nat):List Oper → Nat → Option Nat → Option Nat
  | [],_,r=>r
  | o::l,i,r=>lastIdx t l (i + 1) (bif (match o.dst with | some d=>Nat.beq d t | none=>false) then some i else r)
def lastIs (t:Nat) (l:List Oper) (j:Nat):Bool:=match lastIdx t l 0 none with | some j'=>Nat.beq j' j | none=>false
def tmpsOf (o:Oper):List Nat:=o.op.operands.toList.filterMap fun | .tmp t=>some t | _=>none
def needOf (pre:List Oper) (o:Oper):List (Nat × Option Nat):=(tmpsOf o).map fun t=>(t,lastIdx t pre 0 none)
def needs (pre:List Oper):List Oper → List (List (Nat × Option Nat))
  | []=>[]
  | o::l=>needOf pre o::needs (pre ++ [o]) l
def esOf (ops:List Oper):List Ent:=(needs [] ops).map fun nd=>⟨none,nd⟩
def ixs:Nat → List Oper → OpL
  | _,[]=>[]
  | i,o::l=>(i,o)::ixs (i + 1) l

def grpOk (e:Env T) (c j:Nat) (w:Bool) (gr:OpL):Bool:=
  gr.all fun x=>(match x.2.guard with
    | some (j', w') => (Nat.beq j' j && w' == w) || gr.any fun y => Nat.beq y.1 j'
    | none=>false) && match x.2.dst with
    | some d=>!(isRes (lk e d)) && !(Nat.beq d c)
    | none=>false
def tops:OpL → Env T → Env T
  | [],e=>e
  | (_, o) :: l, e => match o.dst with
    | some d=>(d,.top)::tops l e
    | none=>tops l e
/-- a value that is picked: a part of it may be without a value only where it is asked for -/
def pickC (tot w m:Bool) (run oth:Option Bool) (k:Bool → Option R):Option R:=
  bif tot then match run,oth with
    | some b,some true=>bif w then none else k (m || b)
    | some b,some false=>bif w then k (m && b) else none
    | _,_=>none
  else match w with
    | true=>(if m then run else oth).bind k
    | false=>(if m then oth else run).bind k
/-- A box of which nothing is told while operations run in any order: one that was there, or one that they make. -/
inductive Hd where
  | no
  | old (s:Nat)
  | new (s:Nat) (t:Tp)
inductive Hv where
  | adr (off:Nat)
  | box (t:Tp)
/-- a pointer into such a box -/
def hidO (C:Cx T) (hid:Hd) (o:Oper):Option Hv:=
  match hid,o.op with
  | .old s,.fieldAddr st (.tmp s') f=>bif Nat.beq s s' then (match fldOff C.P st f with | some off=>some (.adr off) | none=>none) else none
  | .new s t, .alloc ty => match o.dst with
    | some d=>bif Nat.beq s d && zeroB C.P T ty t then some (.box t) else none
    | none=>none
  | _,_=>none
/-- The operations of a region that may run in any order. -/
def ev1 (C:Cx T) (hid:Hd) (ops:List Oper):Nat → (R:Type) → Option (Nat × Bool) → OpL → Env T → (OpL → Env T → Option R) → Option R
  | 0,_,_,_,_,_=>none
  | _ + 1,_,_,[],e,k=>k [] e
  | f + 1, R, g, (i, o) :: l, e, k =>
    if o.guard = g then
      match hidO C hid o,o.dst with
      | some _,some d=>bif isRes (lk e d) then none else ev1 C hid ops f R g l ((d,.top)::e) k
      | _, _ =>
        bif isMut C e o then (match g with | none=>k ((i,o)::l) e | some _=>none) else
        match o.dst with
        | some d=>step1 C e o fun a=>ev1 C hid ops f R g l ((d,a)::e) k
        | none=>none
    else match o.guard with
      | none=>none
      | some (j, w) => bif g.isNone && (spanG g ((i, o) :: l)).1.any (fun x => isMut C e x.2) then k ((i, o) :: l) e else match spanG g ((i, o) :: l) with
        | (gr, (_, p) :: l') => match p.op, p.dst, dstOf ops j with
          | .pick (.tmp c) x y, some d, some tj => match asB (lk e c) with
            | some m =>
              bif Nat.beq tj c && lastIs c (ops.take i) j && grpOk e c j w gr && !(isRes (lk e d)) then
                pickC (gr.all fun x=>isTot x.2) w m (ev1 C hid ops f Bool (some (j,w)) gr e fun _ e'=>asB (opv e' (if w then x else y))) (asB (opv (tops gr e) (if w then y else x)))
                  fun b=>ev1 C hid ops f R g l' ((d,.v .bool b)::tops gr e) k
              else none
            | none=>none
          | _,_,_=>none
        | _=>none

/-- what mentions a slot -/
def kl (s:Nat):AV T → AV T
  | .ab s' t x u L=>bif Nat.beq s' s then .top else .ab s' t x u L
  | .ao s' e t xs i x u L=>bif Nat.beq s' s then .top else .ao s' e t xs i x u L
  | a=>a
def klA (s:Nat):AV T → AV T
  | .al s'=>bif Nat.beq s' s then .top else .al s'
  | .mv f s'=>bif Nat.beq s' s then .top else .mv f s'
  | a=>kl s a
def mapK (f:AV T → AV T):Env T → (Env T → Option R) → Option R
  | [],k=>k []
  | (t,a)::e,k=>mapK f e fun e'=>k ((t,f a)::e')
def AV.ment:AV T → Nat → Bool
  | .al s,t=>Nat.beq s t
  | .ab s _ _ _ _,t=>Nat.beq s t
  | .ao s _ _ _ _ _ _ _,t=>Nat.beq s t
  | .mv _ s,t=>Nat.beq s t
  | _,_=>false
def put (e:Env T) (d:Nat) (a:AV T) (k:Env T → Option R):Option R:=
  bif a.ment d then none else bif isRes (lk e d) then mapK (klA d) e fun e'=>k ((d,a)::e') else k ((d,a)::e)
/-- the slot of a resource -/
def resSlot (e:Env T):Operand → Option Nat
  | .tmp t => match lk e t with
    | .al s=>some s
    | .own _ _ _ _=>some t
    | .box _ _ _=>some t
    | .rs _ _ _=>some t
    | .tr _ _ _ _=>some t
    | _=>none
  | _=>none
/-- what is taken of a slot -/
def takeR:(κ:Rk) → AV T → Option (κ.D T)
  | .n,_=>some ()
  | .o el t,.own false el' u xs=>bif Nat.beq el el' then cast? (.list u) (.list t) xs else none
  | .o _ _,.e0=>some []
  | .b t,.box false u x=>cast? u t x
  | .c m, .rs false m' x => match natSame m' m with
    | some h=>some (h.down ▸ x)
    | none=>none
  | _,_=>none
/-- the arguments of a call that are values -/
def argP (ov:Operand → AV T):(p:Pm) → Operand → (l:List Pm) → Option (HL T.S (valsP l)) → Option (HL T.S (valsP (p::l)))
  | .v t, x, _, r => match asT t (ov x), r with
    | some y,some ys=>some (consH y ys)
    | _,_=>none
  | .tu,_,_,r=>r
  | .tk,_,_,r=>r
  | .fn g, x, _, r => match x with
    | .func g'=>bif Nat.beq g g' then r else none
    | _=>none
def argsP (ov:Operand → AV T):(l:List Pm) → List Operand → Option (HL T.S (valsP l))
  | [],[]=>some ()
  | p::l,x::xs=>argP ov p x l (argsP ov l xs)
  | [],_::_=>none
  | _::_,[]=>none
/-- the argument that is turned (tk = false) or taken over -/
def resArg (tk:Bool):List Pm → List Operand → Option Operand
  | .v _::l,_::xs=>resArg tk l xs
  | .tu::l,x::xs=>bif tk then resArg tk l xs else some x
  | .tk::l,x::xs=>bif tk then some x else resArg tk l xs
  | .fn _::l,_::xs=>resArg tk l xs
  | _,_=>none
/-- .. and its slot -/
def locR (e:Env T) (κ:Rk) (x:Option Operand):Option (Option Nat × κ.D T):=
  match κ,x with
  | .n,none=>some (none,())
  | .n,some _=>none
  | .c m, none => match ambS m e e with
    | some s => match takeR (.c m) (lk e s) with
      | some y=>bif isRes (lk e s) then some (some s,y) else none
      | none=>none
    | none=>none
  | κ, some x => match resSlot e x with
    | some s => match takeR κ (lk e s) with
      | some y=>bif isRes (lk e s) then some (some s,y) else none
      | none=>none
    | none=>none
  | _,none=>none
def neO:Option Nat → Option Nat → Bool
  | some a,some b=>!(Nat.beq a b)
  | _,_=>true
def klO (f:Nat → AV T → AV T):Option Nat → AV T → AV T
  | some s,a=>f s a
  | none,a=>a
def addO (s:Option Nat) (a:AV T) (e:Env T):Env T:=match s with
  | some s=>(s,a)::e
  | none=>e
/-- no such parameter -/
def noP (tk:Bool):List Pm → Bool
  | []=>true
  | .v _::l=>noP tk l
  | .tu::l=>tk && noP tk l
  | .tk::l=>!tk && noP tk l
  | .fn _::l=>noP tk l
def uniqP:List Pm → Bool
  | []=>true
  | .v _::l=>uniqP l
  | .tu::l=>noP false l && uniqP l
  | .tk::l=>noP true l && uniqP l
  | .fn _::l=>uniqP l
def callR (C:Cx T) (e:Env T) (d:FnR T) (as_:List Operand) (dst:Option Nat) (k:Env T → Option R):Option R:=
  match argsP (opvF C e) d.pm as_,locR e d.tu (resArg false d.pm as_),locR e d.tk (resArg true d.pm as_) with
  | some x, some (s1, y), some (s2, z) => bif uniqP d.pm && neO s1 s2 && neO dst s1 && neO dst s2 && (match dst with | some _ => true | none => isN d.ro && d.cod.isEmpty) then
      (d.run x y z).bind fun q=>mapK (fun a=>klO kl s1 (klO klA s2 (klO klA dst a))) e fun e'=>k (addO dst (resR d.ro d.cod (d.inj q).2.1 (d.inj q).2.2) (addO s1 (d.tu.av (d.inj q).1) (addO s2 .top e')))
    else none
  | _,_,_=>none
def frz1 (e:Env T) (x:Operand) (k:Env T → Option R):Option R:=
  match x with
  | .tmp t => match lk e t with
    | .own false _ u xs=>mapK (klA t) e fun e'=>k ((t,.v (.list u) xs)::e')
    | .box false u x=>mapK (klA t) e fun e'=>k ((t,.ref u x)::e')
    | .al s => match lk e s with
      | .own false _ u xs=>mapK (klA s) e fun e'=>bif isRes (lk e' t) then none else k ((t,.v (.list u) xs)::(s,.v (.list u) xs)::e')
      | .box false u x=>mapK (klA s) e fun e'=>bif isRes (lk e' t) then none else k ((t,.ref u x)::(s,.ref u x)::e')
      | _=>k e
    | _=>k e
  | _=>k e
def frz (e:Env T):List Operand → (Env T → Option R) → Option R
  | [],k=>k e
  | x::l,k=>frz1 e x fun e'=>frz e' l k
/-- the arguments that are values -/
def valArgs:List Pm → List Operand → List Operand
  | .v _::l,x::xs=>x::valArgs l xs
  | _::l,_::xs=>valArgs l xs
  | _,_=>[]
def frzOps (C:Cx T) (e:Env T) (o:Oper):List Operand:=match o.op with
  | .build _ ps=>ps.toList.map (·.2)
  | .buildSlice _ _ ps=>ps.toList.map (·.2)
  | .box _ x=>[x]
  | .slice _ x _ _ _=>[x]
  | .store _ _ y=>[y]
  | .call c => match c.callee with
    | .value (.func f) => match rdepU C f o.dst with
      | some d=>valArgs d.pm c.args.toList
      | none=>c.args.toList
    | .value (.tmp s) => match lk e s with
      | .mv f _ => match rdep C.rdeps f with
        | some d=>valArgs d.pm.tail c.args.toList
        | none=>[]
      | _=>c.args.toList
    | .value _=>c.args.toList
    | _=>[]
  | _=>[]
def sameTmp:Operand → Operand → Bool
  | .tmp a,.tmp b=>Nat.beq a b
  | _,_=>false
/-- what is left of a tuple is known in the slot it was taken from, too -/
def reTq (e:Env T) (x:Operand) (d:Nat) (l:List (Σ t,T.D t)) (E:Env T):Env T:=match x with
  | .tmp t => match lk e t with
    | .al _=>bif Nat.beq t d then E else (t,.tq l)::E
    | _=>E
  | _=>E
/-- .. one after the other -/
def step2 (C:Cx T) (e:Env T) (o:Oper) (k:Env T → Option R):Option R:=
  match o.op,o.dst with
  | .store ty p y, none => match p with
    | .tmp pt => match (match lk e pt with
        | .al s=>match lk e s with | .box _ t x=>AV.ab s t x t (Lens.id t) | _=>.top
        | .box _ t x=>AV.ab pt t x t (Lens.id t)
        | a=>a) with
      | .ab s t x u L => match lk e s with
        | .box false _ _ => match asT u (opv e y) with
          | some z=>bif tyB C.P T ty u then mapK (kl s) e fun e'=>k ((s,.box false t (L.set x z))::e') else none
          | none=>none
        | _=>none
      | .ao s el t xs i x u L => match lk e s with
        | .own false _ _ _ => match asT u (opv e y) with
          | some z=>bif tyB C.P T ty u then mapK (kl s) e fun e'=>k ((s,.own false el t (xs.set i (L.set x z)))::e') else none
          | none=>none
        | _=>none
      | _=>none
    | _=>none
  | .alloc ty, some d => match C.tid ty with
    | some t=>bif zeroB C.P T ty t then put e d (.box false t (T.dflt t)) k else none
    | none=>none
  | .box ty x, some d => match opv e x with
    | .v t y=>bif tyB C.P T ty t then put e d (.box false t y) k else none
    | _=>none
  | .assign x, some d => match resSlot e x with
    | some s => match lk e s with
      | .own false el t xs=>mapK (klA s) e fun e'=>put ((s,.top)::e') d (.own false el t xs) fun e''=>bif isRes (lk e'' s) then none else k ((s,.al d)::e'')
      | .rs false m z=>bif Nat.beq s d then none else mapK (fun a=>klA s (klA d a)) e fun e'=>k ((d,.rs false m z)::(s,.top)::e')
      | _=>none
    | none=>step1 C e o fun a=>put e d a k
  | .extract x i, some d => match i, resSlot e x with
    | 0, some s => match lk e s with
      | .tr false κ w l=>bif Nat.beq s d || isN κ then none else mapK (fun a=>klA s (klA d a)) e fun e'=>k (reTq e x d l ((d,κ.av w)::(s,.tq l)::e'))
      | _=>step1 C e o fun a=>put e d a k
    | _,_=>step1 C e o fun a=>put e d a k
  | .buildSlice ty m ps, some d => match m with
    | 0=>step1 C e o fun a=>put e d a k
    | _ => match bslice C e ty m ps with
      | some ⟨t,(el,xs)⟩=>put e d (.own false el t xs) k
      | none=>none
  | .makeSlice ty lx cx, some d => match asI (opv e lx), slOf C.P ty with
    | some n, some el => match C.tid el with
      | some t=>bif sameTmp lx cx && elB C.P T el t && zeroB C.P T el t then (makeI n (T.dflt t)).bind fun r=>put e d (.own false el t r) k else none
      | none=>none
    | _,_=>none
  | .call c, some d => match c.callee with
    | .builtin .append => match c.args.toList, c.argTypes.toList with
      | [x, y], [ty, ty'] => bif Nat.beq ty ty' then match slOf C.P ty, asL e (opv e y) with
        | some el, some ⟨t, ys⟩ => bif elB C.P T el t then (match resSlot e x with
          | some s => match lk e s with
            | .own false el' t' xs => match cast? (.list t') (.list t) xs with
              | some xs=>bif Nat.beq el el' then (appI xs ys).bind fun r=>mapK (klA s) e fun e'=>put ((s,.top)::e') d (.own false el t r) k else none
              | none=>none
            | _=>none
          | none => match res e (opv e x) with
            | .e0=>(appI [] ys).bind fun r=>put e d (.own false el t r) k
            | _=>none) else none
        | _,_=>none
        else none
      | _,_=>none
    | .value (.func f) => match rdepU C f (some d) with
      | some q=>callR C e q c.args.toList (some d) k
      | none=>step1 C e o fun a=>put e d a k
    | .value (.tmp s) => match lk e s with
      | .mv f s' => match rdep C.rdeps f with
        | some q=>callR C e q (.tmp s'::c.args.toList) (some d) k
        | none=>none
      | _=>step1 C e o fun a=>put e d a k
    | _=>step1 C e o fun a=>put e d a k
  | .call c, none => match c.callee with
    | .value (.func f) => match rdepU C f none with
      | some q=>callR C e q c.args.toList none k
      | none=>none
    | .value (.tmp s) => match lk e s with
      | .mv f s' => match rdep C.rdeps f with
        | some q=>callR C e q (.tmp s'::c.args.toList) none k
        | none=>none
      | _=>none
    | _=>none
  | _,some d=>step1 C e o fun a=>put e d a k
  | _,none=>none

/-- an operation that is not wanted -/
def skipO (e:Env T) (o:Oper) (k:Env T → Option R):Option R:=match o.dst with
  | some d=>put e d (.tup []) k
  | none=>k e
def ev2 (C:Cx T) (ops:List Oper):OpL → Env T → (Env T → Option R) → Option R
  | [],e,k=>k e
  | (_, o) :: l, e, k => match o.guard, (match o.dst with | some d => Nat.blt d C.n | none => true) with
    | none,true=>frz e (frzOps C e o) fun e'=>step2 C e' o fun e''=>ev2 C ops l e'' k
    | some (j, w), true => match dstOf ops j with
      | some c => match asB (lk e c) with
        | some m => match w with
          | true => if m then frz ((c, .v .bool true) :: e) (frzOps C ((c, .v .bool true) :: e) o) fun e' => step2 C e' o fun e'' => ev2 C ops l e'' k
            else skipO ((c,.v .bool false)::e) o fun e''=>ev2 C ops l e'' k
          | false => if m then skipO ((c, .v .bool true) :: e) o fun e'' => ev2 C ops l e'' k
            else frz ((c,.v .bool false)::e) (frzOps C ((c,.v .bool false)::e) o) fun e'=>step2 C e' o fun e''=>ev2 C ops l e'' k
        | none => match lk e c with
          | .tup []=>skipO e o fun e''=>ev2 C ops l e'' k
          | _=>none
      | none=>none
    | _,_=>none

/-- the boxes that a region has made and that nothing writes to behind it -/
def shareK (C:Cx T):List Oper → Env T → (Env T → Option R) → Option R
  | [],e,k=>k e
  | o :: l, e, k => match o.op, o.dst with
    | .alloc _, some d => bif C.own.contains d then shareK C l e k else match lk e d with
      | .box false t x=>mapK (klA d) e fun e'=>shareK C l ((d,.ref t x)::e') k
      | _=>shareK C l e k
    | _,_=>shareK C l e k

/-- the first store -/
def stAt:List Oper → Nat → Option (Nat × Oper)
  | [],_=>none
  | o :: l, i => match o.op with
    | .store _ _ _=>some (i,o)
    | _=>stAt l (i + 1)
/-- operations that only look may come behind the first store -/
def lateSt (ops:List Oper):Bool:=match stAt ops 0 with
  | some (m,_)=>!(allI (fun j _=>Nat.blt j m || (List.range j).all fun i=>hasBit (masks ops []) j i) 0 ops)
  | none=>false
def notDst (s:Nat) (ops:List Oper):Bool:=ops.all fun o=>match o.dst with | some d=>!(Nat.beq d s) | none=>true
/-- what is stored is there -/
def needSt (m:Nat) (ops:List Oper):Operand → Bool
  | .tmp t => match lastIdx t (ops.take m) 0 none with
    | some j=>hasBit (masks ops []) m j
    | none=>notDst t ops
  | .const _=>true
  | _=>false
/-- the slot of the box that is stored to -/
def stSlot (ops:List Oper) (m pt:Nat):Nat:=match lastIdx pt (ops.take m) 0 none with
  | some j => match nth ops j with
    | some o=>match o.op with | .fieldAddr _ (.tmp s) _=>s | _=>pt
    | none=>pt
  | none=>pt
/-- .. and where -/
def fldL (P:Program) (st f:Nat):(t:Tp) → Option (Σ u,Lens T t u)
  | .st n => match fldOff P st f, flens (T := T) n f with
    | some off,some ⟨w,L⟩=>bif Nat.beq L.off off then some ⟨w,L⟩ else none
    | _,_=>none
  | _=>none
def stPtr (C:Cx T) (ops:List Oper) (m s pt:Nat) (t:Tp):Option (Σ u,Lens T t u):=
  bif Nat.beq pt s then (bif notDst pt ops then some ⟨t,Lens.id t⟩ else none) else match lastIdx pt (ops.take m) 0 none with
    | some j => match nth ops j with
      | some o => match o.op, o.guard with
        | .fieldAddr st (.tmp s') f,none=>bif Nat.beq s s' && hasBit (masks ops []) m j then fldL C.P st f t else none
        | _,_=>none
      | none=>none
    | none=>none
def evX (C:Cx T) (ops:List Oper) (e:Env T) (k:Env T → Option R):Option R:=
  match stAt ops 0 with
  | some (m, o) => match o.op, o.dst, o.guard with
    | .store ty (.tmp pt) y, none, none => match lk e (stSlot ops m pt) with
      | .box false t x0 => match stPtr C ops m (stSlot ops m pt) pt t with
        | some ⟨u, L⟩ => bif !(notDst (stSlot ops m pt) ops) then none else mapK (klA (stSlot ops m pt)) e fun e0 => ev1 C (.old (stSlot ops m pt)) ops (ops.length + 1) R none (ixs 0 ops) ((stSlot ops m pt, .top) :: e0) fun l e1 =>
          match l with
          | []=>none
          | _ :: l' => bif Nat.beq (ops.length - l.length) m && chkS C.n m ops (esOf (ops.take m)) && chkB m ops && needSt m ops y && tyB C.P T ty u then
              match asT u (opv e1 y) with
              | some z=>ev2 C ops l' ((stSlot ops m pt,.box false t (L.set x0 z))::e1) fun e''=>shareK C ops e'' k
              | none=>none
            else none
        | none=>none
      | _=>none
    | _,_,_=>none
  | none=>none
/-- nothing else is put into a slot -/
def onlyDst (s j:Nat) (ops:List Oper):Bool:=allI (fun i o=>Nat.beq i j || (match o.dst with | some d=>!(Nat.beq d s) | none=>true)) 0 ops
def isTop:AV T → Bool
  | .top=>true
  | _=>false
/-- the moves and extracts that may come behind the store -/
def lateL (m:Nat) (ops:List Oper):List Nat:=(List.range m).filter fun l=>!(hasBit (masks ops []) m l) && isPure ops.toArray l
/-- .. where the first store goes into a box that the region makes -/
def evN (C:Cx T) (ops:List Oper) (e:Env T) (k:Env T → Option R):Option R:=
  match stAt ops 0 with
  | some (m, o) => match o.op, o.dst, o.guard with
    | .store ty (.tmp pt) y, none, none => match lastIdx pt (ops.take m) 0 none with
      | some ja => match nth ops ja with
        | some oa => match oa.op, oa.guard with
          | .alloc tya, none => match C.tid tya with
            | some t => ev1 C (.new pt t) ops (ops.length + 1) R none (ixs 0 ops) e fun l e1 =>
              match l with
              | []=>none
              | _ :: l' => bif Nat.beq (ops.length - l.length) m && chkS C.n m ops (esOf (ops.take m)) && chkC m (lateL m ops) ops && lateOk m (lateL m ops) ops.toArray && hasBit (masks ops []) m ja && onlyDst pt ja ops && needSt m ops y && tyB C.P T ty t && zeroB C.P T tya t && isTop (lk e1 pt) && !(isRes (lk e pt)) then
                  match asT t (opv e1 y) with
                  | some z=>ev2 C ops l' ((pt,.box false t z)::e1) fun e''=>shareK C ops e'' k
                  | none=>none
                else none
            | none=>none
          | _,_=>none
        | none=>none
      | none=>none
    | _,_,_=>none
  | none=>none
def newSt (ops:List Oper):Bool:=match stAt ops 0 with
  | some (m, o) => match o.op with
    | .store _ (.tmp pt) _ => match lastIdx pt (ops.take m) 0 none with
      | some ja => match nth ops ja with
        | some oa => match oa.op with
          | .alloc _=>true
          | _=>false
        | none=>false
      | none=>false
    | _=>false
  | none=>false
/-- the box that the first store goes into may be made before other operations -/
def lateA (ops:List Oper):Bool:=match stAt ops 0 with
  | some (m, o) => match o.op with
    | .store _ (.tmp pt) _ => match lastIdx pt (ops.take m) 0 none with
      | some ja=>!((List.range ja).all fun i=>hasBit (masks ops []) ja i)
      | none=>false
    | _=>false
  | none=>false
/-! a region with one call that turns a thing, and a box that is made at any time -/
def unl:AV T → Bool
  | .own false _ _ _=>true
  | .box false _ _=>true
  | .rs false _ _=>true
  | .tr false _ _ _=>true
  | _=>false
/-- mentions the inside of a slot's thing -/
def AV.ins:AV T → Nat → Bool
  | .ab s _ _ _ _,t=>Nat.beq s t
  | .ao s _ _ _ _ _ _ _,t=>Nat.beq s t
  | _,_=>false
/-- values that last -/
def persA:AV T → Bool
  | .ab _ _ _ _ _=>false
  | .ao _ _ _ _ _ _ _ _=>false
  | a=>!(isRes a)
def isHid (hp:Option Nat) (o:Oper) (d:Nat):Bool:=match hp,o.op with
  | some p,.alloc _=>Nat.beq p d
  | _,_=>false
/-- operations that write to nothing; hp: the slot of a box of which nothing is told -/
def evP (C:Cx T) (hp:Option Nat):List Oper → Env T → (Env T → Option R) → Option R
  | [],e,k=>k e
  | o :: l, e, k => match o.guard, o.dst with
    | none, some d => bif isRes (lk e d) then none else bif isHid hp o d then evP C hp l ((d, .top) :: e) k
      else bif isMut C e o then none else step1 C e o fun a=>bif persA a then evP C hp l ((d,a)::e) k else none
    | _,_=>none
def callAt (C:Cx T):List Oper → Nat → Option (Nat × FuncId × FnR T × List Operand × Nat)
  | [],_=>none
  | o :: l, i => match o.op, o.dst, o.guard with
    | .call c, some dc, none => match c.callee with
      | .value (.func f) => match rdep C.rdeps f with
        | some d=>some (i,f,d,c.args.toList,dc)
        | none=>callAt C l (i + 1)
      | _=>callAt C l (i + 1)
    | _,_,_=>callAt C l (i + 1)
def shapeX (N s mc ms ma pt:Nat) (ops:List Oper) (j:Nat):ShL:=match nth ops j with
  | some o=>⟨match o.dst with | some d=>d | none=>pt,(s,none)::((bif Nat.blt j mc then [(s,some N)] else []) ++ needOf (ops.take j) o),bif Nat.beq j mc then [N] else bif Nat.beq j ms then [ma] else []⟩
  | none=>⟨0,[],[]⟩
def shapesX (N s mc ms ma pt:Nat) (ops:List Oper):List ShL:=(List.range N).map (shapeX N s mc ms ma pt ops) ++ [⟨s,[],[]⟩]
def nilR:(κ:Rk) → Option (κ.D T)
  | .n=>some ()
  | _=>none
/-- the slot of the thing that a call turns -/
def slotC (e:Env T) (d:FnR T) (as_:List Operand):Option Nat:=match resArg false d.pm as_ with
  | some x=>resSlot e x
  | none => match d.tu with
    | .c m=>ambS m e e
    | _=>none
def unal:AV T → AV T
  | .al _=>.top
  | .mv _ _=>.top
  | .ab _ _ _ _ _=>.top
  | .ao _ _ _ _ _ _ _ _=>.top
  | a=>bif isRes a then .top else a
def dstE (e3:Env T):List Oper → Env T → Env T
  | [],e=>e
  | o :: l, e => match o.dst with
    | some d=>(d,unal (lk e3 d))::dstE e3 l e
    | none=>dstE e3 l e
def evC (C:Cx T) (ops:List Oper) (e:Env T) (k:Env T → Option R):Option R:=
  match callAt C ops 0,stAt ops 0 with
  | some (mc, f, d, as_, dc), some (ms, os) => match os.op, os.dst, os.guard with
    | .store ty (.tmp pt) y, none, none => match lastIdx pt (ops.take ms) 0 none with
      | some ma => match nth ops ma with
        | some oa => match oa.op, oa.guard with
          | .alloc tya, none => match C.tid tya with
            | some t => evP C none (ops.take mc) e fun e1 => match slotC e1 d as_ with
              | some s => match takeR d.tu (lk e s), nilR d.tk, argsP (opvF C e1) d.pm as_ with
                | some y0, some z, some x =>
                  bif chkXs C.n ops.length ops (shapesX ops.length s mc ms ma pt ops) (masks ops []) 0 ops (shapesX ops.length s mc ms ma pt ops) && uniqP d.pm && noP true d.pm && isN d.ro && !(isN d.tu) && unl (lk e s) && notDst s ops && onlyDst pt ma ops && Nat.blt mc ma && Nat.blt ma ms && zeroB C.P T tya t && tyB C.P T ty t && ops.all (fun o=>match o.dst with | some d=>!(isRes (lk e d)) | none=>true) && e.all (fun p=>!(p.2.ins s)) then
                    (d.run x y0 z).bind fun q=>mapK (klA s) e1 fun e1'=>evP C (some pt) ((ops.take ms).drop (mc + 1)) ((dc,resV d.cod (d.inj q).2.2)::(s,.top)::e1') fun e2=>
                      match asT t (opv e2 y) with
                      | some w=>evP C none (ops.drop (ms + 1)) e2 fun e3=>k ((pt,.box false t w)::(s,d.tu.av (d.inj q).1)::dstE e3 ops e)
                      | none=>none
                  else none
                | _,_,_=>none
              | none=>none
            | none=>none
          | _,_=>none
        | none=>none
      | none=>none
    | _,_,_=>none
  | _,_=>none
/-- a type without a zero value that is told of: the block is filled by the next operation -/
def rawB (P:Program) (T:Tb) (ty:TypeId) (t:Tp):Bool:=
  match P.info? ty with
  | some i => match i.zero with
    | some (.agg z)=>(T.e t).agg && Nat.beq z.size (szT T t) && z.toList.all fun v=>v.oneCell'
    | _=>false
  | none=>false
def rawAS (C:Cx T) (e:Env T) (oa os:Oper):Option (Nat × Σ t,T.D t):=
  match oa.op,oa.dst,oa.guard,os.op,os.dst,os.guard with
  | .alloc ty,some d,none,.store ty' (.tmp d') y,none,none=>bif Nat.beq d' d && Nat.blt d C.n && !(sameTmp (.tmp d) y) then (match C.tid ty with
      | some t=>bif !(zeroB C.P T ty t) && rawB C.P T ty t && tyB C.P T ty' t then (match asT t (opv e y) with | some z=>some (d,⟨t,z⟩) | none=>none) else none
      | none=>none) else none
  | _,_,_,_,_,_=>none
def evT (C:Cx T) (ops:List Oper) (l:OpL) (e:Env T) (k:Env T → Option R):Option R:=
  match l with
  | [(_, oa), (_, os)] => match rawAS C e oa os with
    | some (d,⟨t,z⟩)=>put e d (.box false t z) k
    | none=>ev2 C ops l e fun e''=>shareK C ops e'' k
  | l=>ev2 C ops l e fun e''=>shareK C ops e'' k
def evR (C:Cx T) (ops:List Oper) (draw:Bool) (e:Env T) (k:Env T → Option R):Option R:=
  bif draw && (newSt ops && lateA ops) && (callAt C ops 0).isSome then evC C ops e fun e''=>shareK C ops e'' k else
  bif draw && (lateSt ops || (newSt ops && lateA ops)) then (bif newSt ops then evN C ops e k else evX C ops e k) else
  ev1 C .no ops (ops.length + 1) R none (ixs 0 ops) e fun l e'=>
    bif (bif draw then chk else chkS) C.n (ops.length - l.length) ops (esOf (ops.take (ops.length - l.length))) then
      evT C ops l e' k
    else none

/-! Control -/
inductive Kd where
  | v (t:Tp) | o (e:TypeId) (t:Tp) | b (t:Tp) | c (m:Nat)
@[reducible] def Kd.D (T:Tb):Kd → Type
  | .v t=>T.D t | .o _ t=>List (T.D t) | .b t=>T.D t | .c m=>T.RD m
abbrev Sp:=List (Nat × Kd)
@[reducible] def SpD (T:Tb):Sp → Type
  | []=>Unit
  | [a]=>a.2.D T
  | a::b::l=>a.2.D T × SpD T (b::l)
def Kd.dflt:(κ:Kd) → κ.D T
  | .v t=>T.dflt t | .o _ _=>[] | .b t=>T.dflt t | .c m=>T.RZ m
def takeS (e:Env T) (s:Nat):(κ:Kd) → Option (κ.D T)
  | .v t=>asT t (nrm (lk e s))
  | .o el t => match lk e s with
    | .own false el' u xs=>bif Nat.beq el el' then cast? (.list u) (.list t) xs else none
    | .e0=>some []
    | _=>none
  | .b t => match lk e s with
    | .box false u x=>cast? u t x
    | _=>none
  | .c m => match lk e s with
    | .rs false m' x => match natSame m' m with
      | some h=>some (h.down ▸ x)
      | none=>none
    | _=>none
/-- the values of the slots of a state; those in ds are not known -/
def take (ds:List Nat) (e:Env T):(sp:Sp) → Option (SpD T sp)
  | []=>some ()
  | [a]=>bif ds.contains a.1 then some a.2.dflt else takeS e a.1 a.2
  | a :: b :: l => match (bif ds.contains a.1 then some a.2.dflt else takeS e a.1 a.2), take ds e (b :: l) with
    | some x,some y=>some (x,y)
    | _,_=>none
def vSlots (ds:List Nat):Sp → List Operand
  | []=>[]
  | (s,.v _)::l=>bif ds.contains s then vSlots ds l else .tmp s::vSlots ds l
  | _::l=>vSlots ds l
/-- .. and what need not be written to any more is handed over first -/
def takeF (ds:List Nat) (e:Env T) (sp:Sp) (k:SpD T sp → Option R):Option R:=
  frz e (vSlots ds sp) fun e'=>match take ds e' sp with
    | some s=>k s
    | none=>none
def avK:(κ:Kd) → κ.D T → AV T
  | .v t,x=>mkv t x
  | .o e t,x=>.own false e t x
  | .b t,x=>.box false t x
  | .c m,x=>.rs false m x
def give (xs:List Nat):(sp:Sp) → SpD T sp → Env T → Env T
  | [],_,e=>e
  | [a],x,e=>(a.1,bif xs.contains a.1 then .top else avK a.2 x)::e
  | a::b::l,x,e=>(a.1,bif xs.contains a.1 then .top else avK a.2 x.1)::give xs (b::l) x.2 e

def wrs:Code → List Nat
  | .region _ A _=>A.toList.filterMap (·.dst)
  | .seq a b=>wrs a ++ wrs b
  | .cond _ a b=>wrs a ++ wrs b
  | .block _ a=>wrs a
  | .loop a=>wrs a
  | _=>[]
/-- what stays of an environment over a piece of code -/
def keepA (lock:Bool) (W:List Nat):AV T → AV T
  | .v t x=>.v t x
  | .fl t xs=>.fl t xs
  | .ref t x=>.ref t x
  | .e0=>.e0
  | .nil=>.nil
  | .own b e t xs=>.own (lock || b) e t xs
  | .box b t x=>.box (lock || b) t x
  | .rs b m x=>.rs (lock || b) m x
  | .tq l=>.tq l
  | .tr b κ x l=>.tr (lock || b) κ x l
  | .al s=>bif W.contains s then .top else .al s
  | .mv f s=>bif W.contains s then .top else .mv f s
  | _=>.top
def keepK (lock:Bool) (W:List Nat) (Wd:List Nat):Env T → (Env T → Option R) → Option R
  | [],k=>k []
  | (t,a)::e,k=>keepK lock W Wd e fun e'=>k (bif W.contains t then e' else (t,bif Wd.contains t then a else keepA lock (W ++ Wd) a)::e')

def lkA:AV T → AV T
  | .own _ el t xs=>.own true el t xs
  | .box _ t x=>.box true t x
  | .rs _ m x=>.rs true m x
  | .tr _ κ x l=>.tr true κ x l
  | a=>a
def lockK (W:List Nat):Env T → (Env T → Option R) → Option R
  | [],k=>k []
  | (t,a)::e,k=>lockK W e fun e'=>k ((t,bif W.contains t then a else lkA a)::e')

/-- Of a state: the slots that nothing reads any more, and those of them that are not known. -/
abbrev Ls:=List Nat × List Nat
/-- How a function's code is to be taken. -/
inductive Hn (T:Tb) where
  | n
  | h (i:Nat)
  | s (a b:Hn T)
  | f (l:List Nat) (a:Hn T)
  | j (fz:List Nat) (sp:Sp) (xs:Ls) (a:Hn T)
  | jf (fz:List Nat) (sp:Sp) (xs:Ls) (exs:List (Nat × Ls)) (a:Hn T)
  | l (fz:List Nat) (sp:Sp) (exs:List (Nat × Ls)) (fuel:Env T → Nat) (a:Hn T)
structure Kt (T:Tb) (ρ R:Type) where
  go:Env T → Option R
  ex:Nat → Env T → Option R
  rv:ρ → Option R
def exAt:List (Nat × Ls) → Nat → Option Ls
  | [],_=>none
  | (i,x)::l,j=>bif Nat.beq i j then some x else exAt l j
def exF {ρ:Type} (exs:List (Nat × Ls)) (sp:Sp) (i:Nat) (e:Env T):Option (Flow (SpD T sp) ρ):=
  match exAt exs i with
  | some x=>takeF x.2 e sp fun s=>some (.ex i s)
  | none=>none
def exK {ρ:Type} {sp:Sp} (base:Env T) (K:Kt T ρ R):List (Nat × Ls) → Nat → SpD T sp → Option R
  | [],_,_=>none
  | [(i,x)],_,s=>K.ex i (give (x.1 ++ x.2) sp s base)
  | (i,x)::y::l,j,s=>if j = i then K.ex i (give (x.1 ++ x.2) sp s base) else exK base K (y::l) j s
def resH (C:Cx T) (e:Env T):(l:List Tp) → List ResultVar → Option (HL T.S l)
  | [],[]=>some ()
  | [a],[r]=>resH1 e a r
  | a :: b :: l, r :: rs => match resH1 e a r, resH C e (b :: l) rs with
    | some x,some y=>some (x,y)
    | _,_=>none
  | _,_=>none
where resH1 (e:Env T) (t:Tp):ResultVar → Option (T.D t)
  | .tmp s=>asT t (nrm (lk e s))
  | .cell s ty => match lk e s with
    | .box _ u x=>bif tyB C.P T ty u then cast? u t x else none
    | _=>none
def spW (sp:Sp):List Nat:=sp.map (·.1)
/-- What a function gives: what is turned (in a slot), a result that is its own, and the other results. -/
structure Rv (T:Tb) where
  sl:Nat
  tu:Rk
  ro:Rk
  cod:List Tp
  ρ:Type
  pr:tu.D T × ro.D T × HL T.S cod → ρ
  inj:ρ → tu.D T × ro.D T × HL T.S cod
  hpr : ∀ r,inj (pr r) = r
abbrev Rv.D (T:Tb) (rv:Rv T):Type:=rv.ρ
/-- the results that are values -/
def valRs (ro:Rk) (rs:List ResultVar):List ResultVar:=bif isN ro then rs else rs.tail
def ro1 (e:Env T) (κ:Rk):List ResultVar → Option (κ.D T)
  | .tmp s::_=>takeR κ (lk e s)
  | _=>none
def roR (C:Cx T) (e:Env T):(κ:Rk) → Option (κ.D T)
  | .n=>some ()
  | .o el t=>ro1 e (.o el t) C.rs
  | .b t=>ro1 e (.b t) C.rs
  | .c m=>ro1 e (.c m) C.rs
def slotEq (rs:List ResultVar) (sl:Nat):Bool:=match rs with | .tmp s::_=>Nat.beq s sl | _=>true
def retV (C:Cx T) (e:Env T) (rv:Rv T):Option (rv.D T):=
  bif !(isN rv.tu) && !(isN rv.ro) && slotEq C.rs rv.sl then none else
  match takeR rv.tu (lk e rv.sl),roR C e rv.ro,resH C e rv.cod (valRs rv.ro C.rs) with
  | some y,some w,some r=>some (rv.pr (y,w,r))
  | _,_,_=>none

def ev (C:Cx T) (cod:Rv T):Code → Hn T → (R:Type) → Env T → Kt T (cod.D T) R → Option R
  | .skip,_,_,e,K=>K.go e
  | .region id A d, h, R, e, K => match h with
    | .f l _=>frz e (l.map .tmp) fun e'=>evR C A.toList d e' K.go
    | .h i=>C.hk i (.region id A d) e R K.go
    | _=>evR C A.toList d e K.go
  | .seq a b, h, R, e, K => match h with
    | .s x y=>ev C cod a x R e { K with go:=fun e'=>ev C cod b y R e' K }
    | _=>ev C cod a .n R e { K with go:=fun e'=>ev C cod b .n R e' K }
  | .cond c a b, h, R, e, K => match h with
    | .j fz sp xs (.s x y) => frz e (fz.map .tmp) fun e0 => lockK (wrs a ++ wrs b ++ spW sp) e0 fun e => keepK false (wrs a ++ wrs b) (spW sp) e0 fun e1 => match asB (opv e c) with
      | some m=>(if m then ev C cod a x (SpD T sp) e ⟨fun e'=>takeF xs.2 e' sp some,fun _ _=>none,fun _=>none⟩
          else ev C cod b y (SpD T sp) e ⟨fun e'=>takeF xs.2 e' sp some,fun _ _=>none,fun _=>none⟩).bind fun s=>K.go (give (xs.1 ++ xs.2) sp s e1)
      | none=>none
    | .jf fz sp xs exs (.s x y) => frz e (fz.map .tmp) fun e0 => lockK (wrs a ++ wrs b ++ spW sp) e0 fun e => keepK false (wrs a ++ wrs b) (spW sp) e0 fun e1 => match asB (opv e c) with
      | some m =>
        let K' : Kt T (cod.D T) (Flow (SpD T sp) (cod.D T)):=⟨fun e'=>takeF xs.2 e' sp fun s=>some (.go s),exF exs sp,fun r=>some (.ret r)⟩
        (if m then ev C cod a x _ e K' else ev C cod b y _ e K').bind fun f=>match f with
          | .go s=>K.go (give (xs.1 ++ xs.2) sp s e1)
          | .ex i s=>exK e1 K exs i s
          | .ret r=>K.rv r
      | none=>none
    | .s x y => match asB (opv e c) with
      | some m=>if m then ev C cod a x R e K else ev C cod b y R e K
      | none=>none
    | _ => match asB (opv e c) with
      | some m=>if m then ev C cod a .n R e K else ev C cod b .n R e K
      | none=>none
  | .block id a, h, R, e, K => match h with
    | .j fz sp xs x => frz e (fz.map .tmp) fun e0 => lockK (wrs a ++ spW sp) e0 fun e => keepK false (wrs a) (spW sp) e0 fun e1 =>
      (ev C cod a x (SpD T sp) e ⟨fun e'=>takeF xs.2 e' sp some,fun i e'=>bif Nat.beq i id then takeF xs.2 e' sp some else none,fun _=>none⟩).bind fun s=>K.go (give (xs.1 ++ xs.2) sp s e1)
    | .jf fz sp xs exs x => frz e (fz.map .tmp) fun e0 => lockK (wrs a ++ spW sp) e0 fun e => keepK false (wrs a) (spW sp) e0 fun e1 =>
      (ev C cod a x (Flow (SpD T sp) (cod.D T)) e ⟨fun e' => takeF xs.2 e' sp fun s => some (.go s), fun i e' => bif Nat.beq i id then takeF xs.2 e' sp fun s => some (.go s) else exF exs sp i e', fun r => some (.ret r)⟩).bind fun f => match f with
          | .go s=>K.go (give (xs.1 ++ xs.2) sp s e1)
          | .ex i s=>exK e1 K exs i s
          | .ret r=>K.rv r
    | .h i=>C.hk i (.block id a) e R K.go
    | x=>ev C cod a x R e { K with ex:=fun i e'=>bif Nat.beq i id then K.go e' else K.ex i e' }
  | .loop a, h, _, e, K => match h with
    | .l fz sp exs fuel x => frz e (fz.map .tmp) fun e => keepK true (wrs a) (spW sp) e fun ei => keepK false (wrs a) (spW sp) e fun e1 => match take [] e sp with
      | some s0=>(iterL (fun s=>ev C cod a x (Flow (SpD T sp) (cod.D T)) (give [] sp s ei) ⟨fun e'=>takeF [] e' sp fun s=>some (.go s),exF exs sp,fun r=>some (.ret r)⟩) (fuel e) s0).bind fun f=>match f with
          | .go _=>none
          | .ex i s=>exK e1 K exs i s
          | .ret r=>K.rv r
      | none=>none
    | _=>none
  | .exit i,_,_,e,K=>K.ex i e
  | .ret, _, _, e, K => frz e ((valRs cod.ro C.rs).filterMap fun | .tmp s => some (.tmp s) | _ => none) fun e' => match retV C e' cod with
    | some r=>K.rv r
    | none=>none
  | _,_,_,_,_=>none

/-- the regions and blocks of a code -/
def subs:Code → List Code
  | .region i A d=>[.region i A d]
  | .seq a b=>subs a ++ subs b
  | .cond _ a b=>subs a ++ subs b
  | .block i a=>.block i a::subs a
  | .loop a=>subs a
  | _=>[]
def noHk:Nat → Code → Env T → (R:Type) → (Env T → Option R) → Option R:=fun _ _ _ _ _=>none
def initE:(i:Nat) → (l:List Tp) → HL T.S l → Env T
  | _,[],_=>[]
  | i,[a],x=>[(i,mkv a x)]
  | i,a::b::l,x=>(i,mkv a x.1)::initE (i + 1) (b::l) x.2
/-- What a function gives. -/
def evF (C:Cx T) (c:Code) (h:Hn T) (dom cod:List Tp) (x:HL T.S dom):Option (HL T.S cod):=
  ev C ⟨0,.n,.n,cod,HL T.S cod,fun r=>r.2.2,fun r=>((),(),r),fun _=>rfl⟩ c h (HL T.S cod) (initE 0 dom x) ⟨fun _=>none,fun _ _=>none,some⟩
end Go.Gb

/- General part of the proofs: what the evaluator's environments say of slots. -/
namespace Go.Gb
variable {T:Tb} {R:Type}

def Lens.ok {t u:Tp} (L:Lens T t u):Prop:=
  (∀ (x:T.D t) (ad:Addr) (k:K),At x ad k → At (L.get x) (ad.add L.off) k)∧Upd L.off L.set∧L.off + (T.e u).sz ≤ (T.e t).sz

def Fa2:List (Σ t,T.D t) → List Value → K → Prop
  | [],[],_=>True
  | p::l,v::vs,k=>IsV p.2 v k∧Fa2 l vs k
  | _,_,_=>False
theorem Fa2.le {k k' : K} (h:Le k k') : ∀ {l:List (Σ t,T.D t)} {vs:List Value},Fa2 l vs k → Fa2 l vs k'
  | [],[],_=>trivial
  | _::_,_::_,g=>⟨Pers.pers h g.1,Fa2.le h g.2⟩
theorem Fa2.get {k:K} : ∀ {l:List (Σ t,T.D t)} {vs:List Value} {i:Nat} {p:Σ t,T.D t},Fa2 l vs k → l[i]? = some p → ∃ v,vs[i]? = some v∧IsV p.2 v k
  | p::l,v::vs,0,q,g,h=>by simp at h; subst h; exact ⟨v,rfl,g.1⟩
  | p :: l, v :: vs, i + 1, q, g, h => by
    obtain ⟨u,hu,hv⟩:=Fa2.get g.2 (by simpa using h)
    exact ⟨u,by simpa using hu,hv⟩

/-- What is said of something that is a call's own, and which blocks it is. -/
def Rk.is:(κ:Rk) → κ.D T → Value → K → Prop
  | .n,_,_,_=>True
  | .o e _,xs,v,k=>IsOwn 0 e xs v k
  | .b _,x,v,k=>∃ b,v = .pointer (some ⟨b,0,none⟩)∧Box b x k
  | .c m,x,v,k=>∃ F,T.RP m x F v k
def Rk.fp (T:Tb):Rk → Value → K → FP
  | .n,_,_=>noF
  | .o _ _,v,_=>obF v
  | .b _,v,_=>fun b=>v = .pointer (some ⟨b,0,none⟩)
  | .c m,v,k=>fun b=>∃ (y:T.RD m) (F:FP),T.RP m y F v k∧F b
theorem rp_fp {m:Nat} {x:T.RD m} {F:FP} {v:Value} {k:K} (h:T.RP m x F v k):Rk.fp T (.c m) v k = F:=by
  funext b
  refine propext ⟨fun ⟨y,G,h1,h2⟩=>?_,fun h1=>⟨x,F,h,h1⟩⟩
  rw [T.RPone m x y F G v k h h1]; exact h2
theorem Rk.lt {κ:Rk} {x:κ.D T} {v:Value} {k:K} (h:κ.is x v k) : ∀ b,κ.fp T v k b → b < k.w.heap.size∧¬ k.sh b:=by
  intro b hb
  cases κ with
  | n=>exact hb.elim
  | o e t=>exact ⟨(IsOwn.lt h b hb).2.1,(IsOwn.lt h b hb).2.2⟩
  | b t =>
    obtain ⟨c,e,h⟩:=h
    rw [show v = _ from hb] at e
    simp only [Value.pointer.injEq,Option.some.injEq,Addr.mk.injEq,and_true] at e
    subst e
    exact ⟨h.lt,h.own⟩
  | c m =>
    obtain ⟨F,h⟩:=h
    rw [rp_fp h] at hb
    have:=T.RPok m x
    exact ⟨Rsc.lt h b hb,Rsc.nsh h b hb⟩
/-- under a change of other blocks -/
theorem Rk.keep {κ:Rk} {x:κ.D T} {v:Value} {k k' : K} {G:FP} (h:κ.is x v k) (c:Chg G k k') (hn : ∀ b,G b → ¬ k.sh b) (hf:Apart (κ.fp T v k) G):κ.is x v k'∧κ.fp T v k' = κ.fp T v k:=by
  cases κ with
  | n=>exact ⟨trivial,rfl⟩
  | o e t=>exact ⟨IsOwn.keep h c hf hn,rfl⟩
  | b t=>obtain ⟨b,e,h⟩:=h; exact ⟨⟨b,e,h.keep c (hf b e) hn⟩,rfl⟩
  | c m =>
    obtain ⟨F,h⟩:=h
    have hi:=T.RPok m x
    rw [rp_fp h] at hf ⊢
    have h':=Rsc.keep h c hf hn
    exact ⟨⟨F,h'⟩,rp_fp h'⟩
/-- under a handing over of other blocks -/
theorem Rk.handed {κ:Rk} {x:κ.D T} {v:Value} {k k' : K} {G:FP} (h:κ.is x v k) (c:Handed k k' G) (hf:Apart (κ.fp T v k) G):κ.is x v k'∧κ.fp T v k' = κ.fp T v k:=by
  cases κ with
  | n=>exact ⟨trivial,rfl⟩
  | o e t=>exact ⟨IsOwn.handed h c hf,rfl⟩
  | b t=>obtain ⟨b,e,h⟩:=h; exact ⟨⟨b,e,h.handed c (hf b e)⟩,rfl⟩
  | c m =>
    obtain ⟨F,h⟩:=h
    have hi:=T.RPok m x
    rw [rp_fp h] at hf ⊢
    have h':=Rsc.handed h c hf
    exact ⟨⟨F,h'⟩,rp_fp h'⟩
theorem Rk.grow {κ:Rk} {x:κ.D T} {v:Value} {k k' : K} (h:κ.is x v k) (g:Grow k k'):κ.is x v k'∧κ.fp T v k' = κ.fp T v k:=
  Rk.keep h (Chg.of (F:=noF) g) (fun _ f=>f.elim) (fun _ _ f=>f.elim)
/-- the first part of a tuple -/
def fst0:Value → Value
  | .tuple us=>us[0]?.getD undef
  | v=>v
/-- What is said of a slot's value. -/
def AV.is (a:Act):AV T → Value → K → Prop
  | .top,_,_=>True
  | .any,_,_=>True
  | .nil,y,_=>y = .pointer none
  | .v _ x,y,k=>IsV x y k
  | .e0,y,k=>IsE0 y k
  | .tup l,y,k=>∃ vs:List Value,y = .tuple vs.toArray∧Fa2 l vs k
  | .ref _ x,y,k=>IsRef x y k
  | .fl _ xs,y,k=>IsFull xs y k
  | .own _ e _ xs,y,k=>IsOwn 0 e xs y k
  | .box _ _ x,y,k=>∃ b,y = .pointer (some ⟨b,0,none⟩)∧Box b x k
  | .al s,y,_=>y = a.get s
  | .ab s _ x _ L,y,k=>L.ok∧∃ b,a.get s = .pointer (some ⟨b,0,none⟩)∧y = .pointer (some ⟨b,L.off,none⟩)∧Box b x k
  | .ao s e t xs i x _ L,y,k=>L.ok∧IsAdrO (a.get s) (i * (T.e t).sz + L.off) y k∧IsOwn 0 e xs (a.get s) k∧xs[i]? = some x
  | .rs _ m x,y,k=>(Rk.c m).is x y k
  | .tr _ κ x l,y,k=>∃ (u:Value) (vs:List Value),y = .tuple (u::vs).toArray∧κ.is x u k∧Fa2 l vs k
  | .tq l,y,k=>∃ (u:Value) (vs:List Value),y = .tuple (u::vs).toArray∧Fa2 l vs k
  | .mv f s,y,_=>y = .func (.func f) #[a.get s] #[]
theorem isV_rfT {t:Tp} {x:T.D t} {v:Value} {k:K} : @IsV (T.D (.rf t)) (T.e (.rf t)) x v k ↔ @IsRef (T.D t) (T.e t) x v k:=isV_rf (α:=T.D t) (x:=x) (v:=v) (k:=k)
theorem isV_f0T {b:Tp} {g:T.D (.f0 b)} {v:Value} {k:K} : @IsV (T.D (.f0 b)) (T.e (.f0 b)) g v k ↔ @IsFn0 (T.D b) (T.e b) T.P g v k:=isV_f0 (β:=T.D b) (P:=T.P) (g:=g) (v:=v) (k:=k)
theorem isV_f1T {a b:Tp} {g:T.D (.f1 a b)} {v:Value} {k:K} : @IsV (T.D (.f1 a b)) (T.e (.f1 a b)) g v k ↔ @IsFn1 (T.D a) (T.D b) (T.e a) (T.e b) T.P g v k:=isV_f1 (α:=T.D a) (β:=T.D b) (P:=T.P) (g:=g) (v:=v) (k:=k)
theorem isV_f2T {a b c:Tp} {g:T.D (.f2 a b c)} {v:Value} {k:K} : @IsV (T.D (.f2 a b c)) (T.e (.f2 a b c)) g v k ↔ @IsFn2 (T.D a) (T.D b) (T.D c) (T.e a) (T.e b) (T.e c) T.P g v k:=isV_f2 (α:=T.D a) (β:=T.D b) (γ:=T.D c) (P:=T.P) (g:=g) (v:=v) (k:=k)
theorem mkv_is {a:Act} {t:Tp} {x:T.D t} {v:Value} {k:K}:(mkv t x).is a v k ↔ IsV x v k:=by
  cases t with
  | rf t=>exact isV_rfT.symm
  | _=>exact Iff.rfl
theorem mkv_res {t:Tp} {x:T.D t}:isRes (mkv t x) = false:=by cases t <;> rfl
theorem mkv_ment {t:Tp} {x:T.D t} {s:Nat}:(mkv t x).ment s = false:=by cases t <;> rfl
/-- mentions the blocks behind a slot -/
def AV.ment2:AV T → Nat → Bool
  | .ab s _ _ _ _,t=>Nat.beq s t
  | .ao s _ _ _ _ _ _ _,t=>Nat.beq s t
  | _,_=>false
theorem AV.ment2_ment {av:AV T} {s:Nat} (h:av.ment2 s = true):av.ment s = true:=by
  cases av <;> first | exact h | simp [AV.ment2] at h
/-- the blocks that are a slot's own -/
def AV.fp:AV T → Value → K → FP
  | .own _ _ _ _,y,_=>obF y
  | .box _ _ _,y,_=>fun b=>y = .pointer (some ⟨b,0,none⟩)
  | .rs _ m _,y,k=>Rk.fp T (.c m) y k
  | .tr _ κ _ _,y,k=>Rk.fp T κ (fst0 y) k
  | _,_,_=>noF
theorem AV.mono {a:Act} (av:AV T) {v:Value} {k k' : K} (g:Grow k k') (h:av.is a v k):av.is a v k':=by
  cases av with
  | top=>trivial
  | any=>trivial
  | nil=>exact h
  | v t x=>exact Mono.mono (R:=IsV x) g h
  | fl t xs=>exact Mono.mono (R:=IsFull xs) g h
  | e0=>exact h
  | tup l=>obtain ⟨vs,e,h⟩:=h; exact ⟨vs,e,h.le g.le⟩
  | ref t x=>exact Mono.mono (R:=IsRef x) g h
  | own b e t xs=>exact Mono.mono (R:=IsOwn 0 e xs) g h
  | box b t x=>obtain ⟨b,e,h⟩:=h; exact ⟨b,e,h.grow g⟩
  | al s=>exact h
  | ab s t x u L=>obtain ⟨h0,b,e1,e2,h⟩:=h; exact ⟨h0,b,e1,e2,h.grow g⟩
  | ao s e t xs i x u L=>exact ⟨h.1,h.2.1,Mono.mono (R:=IsOwn 0 e xs) g h.2.2.1,h.2.2.2⟩
  | rs b m x=>exact (Rk.grow (κ:=.c m) h g).1
  | tr lf κ x l=>obtain ⟨u,vs,e,h1,h2⟩:=h; exact ⟨u,vs,e,(Rk.grow h1 g).1,h2.le g.le⟩
  | tq l=>obtain ⟨u,vs,e,h2⟩:=h; exact ⟨u,vs,e,h2.le g.le⟩
  | mv f s=>exact h
instance {a:Act} {av:AV T}:Mono (av.is a):=⟨fun g h=>av.mono g h⟩

theorem AV.congr {a a' : Act} (av:AV T) {v:Value} {k:K} (e : ∀ s,av.ment s = true → a'.get s = a.get s) (h:av.is a v k):av.is a' v k:=by
  cases av with
  | al s=>exact (show v = a.get s from h).trans (e s (Nat.beq_refl s)).symm
  | ab s t x u L=>obtain ⟨h0,b,e1,r⟩:=h; exact ⟨h0,b,(e s (Nat.beq_refl s)).trans e1,r⟩
  | ao s el t xs i x u L =>
    have e:=e s (Nat.beq_refl s)
    obtain ⟨h0,h1,h2,h3⟩:=h
    exact ⟨h0,by rw [e]; exact h1,by rw [e]; exact h2,h3⟩
  | mv f s=>have e:=e s (Nat.beq_refl s); show v = _; rw [e]; exact h
  | _=>exact h

theorem AV.lt {a:Act} (av:AV T) {v:Value} {k:K} (h:av.is a v k) : ∀ b,av.fp v k b → b < k.w.heap.size∧¬ k.sh b:=by
  intro b hb
  cases av with
  | own l e t xs=>exact ⟨(IsOwn.lt h b hb).2.1,(IsOwn.lt h b hb).2.2⟩
  | box l t x =>
    obtain ⟨c,e,h⟩:=h
    rw [show v = _ from hb] at e
    simp only [Value.pointer.injEq,Option.some.injEq,Addr.mk.injEq,and_true] at e
    subst e
    exact ⟨h.lt,h.own⟩
  | rs l m x=>exact Rk.lt (κ:=.c m) h b hb
  | tr lf κ x l =>
    obtain ⟨u,vs,rfl,h1,h2⟩:=h
    exact Rk.lt h1 b hb
  | _=>exact hb.elim
theorem fp_nonres {av:AV T} (h:isRes av = false) (v:Value) (k:K) (b:Nat) : ¬ av.fp v k b:=by
  intro hb
  cases av with
  | own l e t xs=>simp [isRes] at h
  | box l t x=>simp [isRes] at h
  | rs l m x=>simp [isRes] at h
  | tr lf κ x l=>simp [isRes] at h
  | _=>exact hb.elim
theorem unl_res {av:AV T} (h:unl av = true):isRes av = true:=by
  cases av with
  | own l e t xs=>rfl
  | box l t x=>rfl
  | rs l m x=>rfl
  | tr lf κ x l=>rfl
  | _=>simp [unl] at h

def isOB:AV T → Bool
  | .own _ _ _ _=>true
  | .box _ _ _=>true
  | _=>false
/-- under a change of blocks that are not its own -/
theorem AV.keep {a:Act} (av:AV T) {v:Value} {k k' : K} {G:FP} (c:Chg G k k') (hn : ∀ b,G b → ¬ k.sh b) (hf:Apart (av.fp v k) G)
    (hm : ∀ s,av.ment2 s = true → ∀ u:AV T,isOB u = true → u.is a (a.get s) k → Apart (u.fp (a.get s) k) G) (h:av.is a v k):av.is a v k':=by
  have hle:=c.le hn
  cases av with
  | top=>trivial
  | any=>trivial
  | nil=>exact h
  | v t x=>exact Pers.pers (R:=IsV x) hle h
  | fl t xs=>exact Pers.pers (R:=IsFull xs) hle h
  | e0=>exact h
  | tup l=>obtain ⟨vs,e,h⟩:=h; exact ⟨vs,e,h.le hle⟩
  | ref t x=>exact Pers.pers (R:=IsRef x) hle h
  | own b e t xs=>exact IsOwn.keep h c hf hn
  | box b t x=>obtain ⟨b,e,h⟩:=h; exact ⟨b,e,h.keep c (hf b e) hn⟩
  | al s=>exact h
  | ab s t x u L =>
    obtain ⟨h0,b,e1,e2,h⟩:=h
    exact ⟨h0,b,e1,e2,h.keep c (hm s (Nat.beq_refl s) (.box false t x) rfl ⟨b,e1,h⟩ b e1) hn⟩
  | ao s e t xs i x u L =>
    exact ⟨h.1,h.2.1,IsOwn.keep h.2.2.1 c (hm s (Nat.beq_refl s) (.own false e t xs) rfl h.2.2.1) hn,h.2.2.2⟩
  | rs b m x=>exact (Rk.keep (κ:=.c m) h c hn hf).1
  | tr lf κ x l=>obtain ⟨u,vs,rfl,h1,h2⟩:=h; exact ⟨u,vs,rfl,(Rk.keep h1 c hn hf).1,h2.le hle⟩
  | tq l=>obtain ⟨u,vs,e,h2⟩:=h; exact ⟨u,vs,e,h2.le hle⟩
  | mv f s=>exact h
theorem AV.fp_keep {a:Act} (av:AV T) {v:Value} {k k' : K} {G:FP} (c:Chg G k k') (hn : ∀ b,G b → ¬ k.sh b) (hf:Apart (av.fp v k) G) (h:av.is a v k):av.fp v k' = av.fp v k:=by
  cases av with
  | rs b m x=>exact (Rk.keep (κ:=.c m) h c hn hf).2
  | tr lf κ x l=>obtain ⟨u,vs,rfl,h1,h2⟩:=h; exact (Rk.keep h1 c hn hf).2
  | _=>rfl
theorem AV.fp_grow {a:Act} (av:AV T) {v:Value} {k k' : K} (g:Grow k k') (h:av.is a v k):av.fp v k' = av.fp v k:=
  av.fp_keep (Chg.of (F:=noF) g) (fun _ f=>f.elim) (fun _ _ f=>f.elim) h
/-- under a handing over of blocks that are not its own -/
theorem AV.handed {a:Act} (av:AV T) {v:Value} {k k' : K} {G:FP} (c:Handed k k' G) (hf:Apart (av.fp v k) G)
    (hm : ∀ s,av.ment2 s = true → ∀ u:AV T,isOB u = true → u.is a (a.get s) k → Apart (u.fp (a.get s) k) G) (h:av.is a v k):av.is a v k':=by
  have hle:=c.le
  cases av with
  | top=>trivial
  | any=>trivial
  | nil=>exact h
  | v t x=>exact Pers.pers (R:=IsV x) hle h
  | fl t xs=>exact Pers.pers (R:=IsFull xs) hle h
  | e0=>exact h
  | tup l=>obtain ⟨vs,e,h⟩:=h; exact ⟨vs,e,h.le hle⟩
  | ref t x=>exact Pers.pers (R:=IsRef x) hle h
  | own b e t xs=>exact IsOwn.handed h c hf
  | box b t x=>obtain ⟨b,e,h⟩:=h; exact ⟨b,e,h.handed c (hf b e)⟩
  | al s=>exact h
  | ab s t x u L =>
    obtain ⟨h0,b,e1,e2,h⟩:=h
    exact ⟨h0,b,e1,e2,h.handed c (hm s (Nat.beq_refl s) (.box false t x) rfl ⟨b,e1,h⟩ b e1)⟩
  | ao s e t xs i x u L =>
    exact ⟨h.1,h.2.1,IsOwn.handed h.2.2.1 c (hm s (Nat.beq_refl s) (.own false e t xs) rfl h.2.2.1),h.2.2.2⟩
  | rs b m x=>exact (Rk.handed (κ:=.c m) h c hf).1
  | tr lf κ x l=>obtain ⟨u,vs,rfl,h1,h2⟩:=h; exact ⟨u,vs,rfl,(Rk.handed h1 c hf).1,h2.le hle⟩
  | tq l=>obtain ⟨u,vs,e,h2⟩:=h; exact ⟨u,vs,e,h2.le hle⟩
  | mv f s=>exact h
theorem AV.fp_handed {a:Act} (av:AV T) {v:Value} {k k' : K} {G:FP} (c:Handed k k' G) (hf:Apart (av.fp v k) G) (h:av.is a v k):av.fp v k' = av.fp v k:=by
  cases av with
  | rs b m x=>exact (Rk.handed (κ:=.c m) h c hf).2
  | tr lf κ x l=>obtain ⟨u,vs,rfl,h1,h2⟩:=h; exact (Rk.handed h1 c hf).2
  | _=>rfl

theorem beq_ne {s t:Nat} (h:s ≠ t):Nat.beq s t = false:=by
  cases hb:Nat.beq s t with
  | true=>exact absurd (Nat.eq_of_beq_eq_true hb) h
  | false=>rfl
theorem kl_or (d:Nat) (x:AV T):kl d x = x ∨ kl d x = .top:=by
  unfold kl
  split
  · cases Nat.beq _ d <;> simp
  · cases Nat.beq _ d <;> simp
  · exact .inl rfl
theorem klA_or (d:Nat) (x:AV T):klA d x = x ∨ klA d x = .top:=by
  unfold klA
  split
  · cases Nat.beq _ d <;> simp
  · cases Nat.beq _ d <;> simp
  · exact kl_or d _
theorem klA_ment {d s:Nat} {x:AV T} (h:(klA d x).ment s = true):x.ment s = true∧s ≠ d:=by
  have ne : ∀ s' : Nat,Nat.beq s' d = false → Nat.beq s' s = true → s ≠ d:=fun s' h1 h2 e=>by
    rw [← e,h2] at h1; simp at h1
  cases x with
  | al s' =>
    simp only [klA] at h
    cases hb:Nat.beq s' d with
    | true=>rw [hb] at h; simp [AV.ment] at h
    | false=>rw [hb] at h; exact ⟨h,ne _ hb h⟩
  | mv f s' =>
    simp only [klA] at h
    cases hb:Nat.beq s' d with
    | true=>rw [hb] at h; simp [AV.ment] at h
    | false=>rw [hb] at h; exact ⟨h,ne _ hb h⟩
  | ab s' t x u L =>
    simp only [klA,kl] at h
    cases hb:Nat.beq s' d with
    | true=>rw [hb] at h; simp [AV.ment] at h
    | false=>rw [hb] at h; exact ⟨h,ne _ hb h⟩
  | ao s' e t xs i x u L =>
    simp only [klA,kl] at h
    cases hb:Nat.beq s' d with
    | true=>rw [hb] at h; simp [AV.ment] at h
    | false=>rw [hb] at h; exact ⟨h,ne _ hb h⟩
  | _=>simp [klA,kl,AV.ment] at h
theorem kl_ment {d s:Nat} {x:AV T} (h:(kl d x).ment s = true):x.ment s = true:=by
  rcases kl_or d x with e | e
  · rwa [e] at h
  · rw [e] at h; simp [AV.ment] at h
theorem kl_ment2 {d s:Nat} {x:AV T} (h:(kl d x).ment2 s = true):x.ment2 s = true∧s ≠ d:=by
  have ne : ∀ s' : Nat,Nat.beq s' d = false → Nat.beq s' s = true → s ≠ d:=fun s' h1 h2 e=>by
    rw [← e,h2] at h1; simp at h1
  cases x with
  | ab s' t x u L =>
    simp only [kl] at h
    cases hb:Nat.beq s' d with
    | true=>rw [hb] at h; simp [AV.ment2] at h
    | false=>rw [hb] at h; exact ⟨h,ne _ hb h⟩
  | ao s' e t xs i x u L =>
    simp only [kl] at h
    cases hb:Nat.beq s' d with
    | true=>rw [hb] at h; simp [AV.ment2] at h
    | false=>rw [hb] at h; exact ⟨h,ne _ hb h⟩
  | _=>simp [kl,AV.ment2] at h
theorem klA_res {d:Nat} {x:AV T} (h:isRes x = true):klA d x = x:=by
  cases x <;> first | rfl | simp [isRes] at h
theorem kl_res {d:Nat} {x:AV T} (h:isRes x = true):kl d x = x:=by
  cases x <;> first | rfl | simp [isRes] at h
theorem lk_cons (s:Nat) (x:AV T) (e:Env T) (t:Nat):lk ((s,x)::e) t = if s = t then x else lk e t:=by
  simp only [lk]
  by_cases h:s = t
  · subst h; simp [Nat.beq_refl]
  · rw [beq_ne h]; simp [h]
def mapE (f:AV T → AV T) (e:Env T):Env T:=e.map fun p=>(p.1,f p.2)
theorem mapK_eq (f:AV T → AV T) : ∀ (e:Env T) (k:Env T → Option R),mapK f e k = k (mapE f e)
  | [],_=>rfl
  | (t,a)::e,k=>by rw [mapK,mapK_eq f e]; rfl
theorem lk_mapE {f:AV T → AV T} (hf:f .top = .top) : ∀ (e:Env T) (t:Nat),lk (mapE f e) t = f (lk e t)
  | [],t=>hf.symm
  | (s, x) :: e, t => by
    show lk ((s,f x)::mapE f e) t = _
    rw [lk_cons,lk_cons,lk_mapE hf e]
    split <;> rfl

/-- The package-level variables hold what the table says. -/
def GOk (T:Tb) (k:K):Prop:=(∀ g t x,T.gl g = some ⟨t,x⟩ → IsRef (α:=T.D t) x (.pointer (some ⟨g,0,none⟩)) k)∧∀ g,T.gi = some g → ∃ m:Int,IsRef m (.pointer (some ⟨g,0,none⟩)) k
theorem GOk.le {k k' : K} (h:Le k k') (g:GOk T k):GOk T k':=⟨fun i t x e=>Pers.pers h (g.1 i t x e),fun i e=>(g.2 i e).imp fun _ r=>Pers.pers h r⟩
/-- What an environment says. -/
structure Hl (n:Nat) (F:FP) (k0:K) (W:List Nat) (a0:Act) (e:Env T) (a:Act) (k:K):Prop where
  g:Chg F k0 k
  s:a.tmps.size = n
  d:a.defers = []
  old : ∀ t,t ∉ W → a.get t = a0.get t
  sl : ∀ t,(lk e t).is a (a.get t) k
  inv : ∀ t s,(lk e t).ment s = true → isRes (lk e s) = true
  wr : ∀ t,unl (lk e t) = true → Wr F k0 ((lk e t).fp (a.get t) k)
  ap : ∀ t t', t ≠ t' → Apart ((lk e t).fp (a.get t) k) ((lk e t').fp (a.get t') k)
  gl:GOk T k

section
variable {n:Nat} {F:FP} {k0:K} {W:List Nat} {a0:Act} {e:Env T} {a a' : Act} {k k' : K}

theorem Hl.lt (h:Hl n F k0 W a0 e a k) (t:Nat) : ∀ b,(lk e t).fp (a.get t) k b → b < k.w.heap.size∧¬ k.sh b:=(lk e t).lt (h.sl t)

/-- what a slot that is mentioned is like -/
theorem Hl.apm (h:Hl n F k0 W a0 e a k) {s s0:Nat} (hs:isRes (lk e s) = true) (hne:s ≠ s0) {u:AV T} (hu:isOB u = true) (hi:u.is a (a.get s) k) :
    Apart (u.fp (a.get s) k) ((lk e s0).fp (a.get s0) k):=by
  have hap:=h.ap s s0 hne
  have hsl:=h.sl s
  have key : ∀ b,u.fp (a.get s) k b → (lk e s).fp (a.get s) k b:=by
    intro b hb
    have hnsh:=(u.lt hi b hb).2
    generalize lk e s = x at hs hsl
    generalize a.get s = v at *
    cases u with
    | own l e' t xs => cases x with
      | own l' e'' t' xs'=>exact hb
      | box l' t' x'=>obtain ⟨c,rfl,_⟩:=hsl; simp [AV.fp,obF,ob] at hb
      | rs l' m z =>
        obtain ⟨F,h1⟩:=hsl
        show Rk.fp T (.c m) v k b
        rw [rp_fp h1]
        exact T.RProot _ _ _ _ _ _ h1 (.inr hb) hnsh
      | tr lf κ z l' =>
        obtain ⟨u,vs,rfl,_⟩:=hsl
        simp [AV.fp,obF,ob] at hb
      | _=>simp [isRes] at hs
    | box l t y => cases x with
      | own l' e'' t' xs' =>
        obtain ⟨c,rfl,_⟩:=hi
        rcases (show IsOwn 0 e'' xs' _ k from hsl) with ⟨e1,_⟩ | ⟨_,e1,_⟩ | ⟨_,_,_,_,_,e1,_⟩ <;> simp at e1
      | box l' t' x'=>exact hb
      | rs l' m z =>
        obtain ⟨F,h1⟩:=hsl
        show Rk.fp T (.c m) v k b
        rw [rp_fp h1]
        exact T.RProot _ _ _ _ _ _ h1 (.inl hb) hnsh
      | tr lf κ z l' =>
        obtain ⟨u,vs,rfl,_⟩:=hsl
        obtain ⟨c,e,_⟩:=hi
        simp at e
      | _=>simp [isRes] at hs
    | _=>simp [isOB] at hu
  exact fun b hb=>hap b (key b hb)

/-- A new value in a slot. -/
theorem Hl.put (h:Hl n F k0 W a0 e a k) {d:Nat} {av:AV T} (hd:d ∈ W) (hg:Grow k k') (hs:a'.tmps.size = a.tmps.size) (hdf:a'.defers = a.defers)
    (ho : ∀ t,t ≠ d → a'.get t = a.get t) (hv:av.is a' (a'.get d) k') (hm : ∀ s,av.ment s = true → isRes (lk e s) = true)
    (hw:unl av = true → Wr F k0 (av.fp (a'.get d) k')) (ha : ∀ t,t ≠ d → Apart (av.fp (a'.get d) k') ((lk e t).fp (a.get t) k)) {r:R} {K:Env T → Option R} (hk:Gb.put e d av K = some r) :
    ∃ e', K e' = some r ∧ Hl n F k0 W a0 e' a' k' ∧ lk e' d = av ∧ ∀ t, t ≠ d → lk e' t = lk e t ∨ lk e' t = .top := by
  have fin:(av.ment d = false) → ∀ e1:Env T,(∀ t,t ≠ d → lk e1 t = lk e t ∨ lk e1 t = .top) → (∀ t s,t ≠ d → (lk e1 t).ment s = true → s ≠ d) → (∀ s,isRes (lk e s) = true → s ≠ d → lk e1 s = lk e s) → Hl n F k0 W a0 ((d,av)::e1) a' k'∧lk ((d,av)::e1) d = av∧∀ t,t ≠ d → lk ((d,av)::e1) t = lk e t ∨ lk ((d,av)::e1) t = .top:=by
    intro hmd e1 h1 h2 h3
    have lkt : ∀ t,t ≠ d → lk ((d,av)::e1) t = lk e1 t:=fun t ht=>by rw [lk_cons,if_neg (Ne.symm ht)]
    have lkd:lk ((d,av)::e1) d = av:=by rw [lk_cons,if_pos rfl]
    refine ⟨?_,lkd,fun t ht=>by rw [lkt t ht]; exact h1 t ht⟩
    refine ⟨h.g.then hg,hs.trans h.s,hdf.trans h.d,fun t ht=>?_,fun t=>?_,fun t s hms=>?_,fun t hu=>?_,fun t t' hne=>?_,h.gl.le hg.le⟩
    · rw [ho t (fun e=>ht (e ▸ hd))]; exact h.old t ht
    · by_cases ht : t = d
      · subst ht; rw [lkd]; exact hv
      · rw [lkt t ht, ho t ht]
        rcases h1 t ht with e1' | e1'
        · rw [e1']
          refine (lk e t).congr (fun s hs'=>ho s (h2 t s ht (by rw [e1']; exact hs'))) ((lk e t).mono hg (h.sl t))
        · rw [e1']; trivial
    · by_cases ht : t = d
      · subst ht; rw [lkd] at hms
        have h5:=hm s hms
        have h4:s ≠ t:=fun e=>by rw [e,hmd] at hms; simp at hms
        rw [lkt s h4,h3 s h5 h4]; exact h5
      · rw [lkt t ht] at hms
        have h4:=h2 t s ht hms
        rcases h1 t ht with e1' | e1'
        · rw [e1'] at hms
          have h5:=h.inv t s hms
          rw [lkt s h4,h3 s h5 h4]; exact h5
        · rw [e1'] at hms; simp [AV.ment] at hms
    · by_cases ht : t = d
      · subst ht; rw [lkd] at hu ⊢; exact hw hu
      · rw [lkt t ht] at hu ⊢
        rw [ho t ht]
        rcases h1 t ht with e1' | e1'
        · rw [e1'] at hu ⊢; rw [AV.fp_grow _ hg (h.sl t)]; exact h.wr t hu
        · rw [e1'] at hu; simp [unl] at hu
    · have sub : ∀ t, t ≠ d → ∀ b, (lk ((d, av) :: e1) t).fp (a'.get t) k' b → (lk e t).fp (a.get t) k b := by
        intro t ht b hb
        rw [lkt t ht,ho t ht] at hb
        rcases h1 t ht with e1' | e1'
        · rw [e1', AV.fp_grow _ hg (h.sl t)] at hb; exact hb
        · rw [e1'] at hb; exact hb.elim
      by_cases ht:t = d
      · subst ht
        rw [lkd]
        exact fun b hb hb'=>ha t' (Ne.symm hne) b hb (sub t' (Ne.symm hne) b hb')
      · by_cases ht' : t' = d
        · subst ht'
          rw [lkd]
          exact fun b hb hb'=>ha t ht b hb' (sub t ht b hb)
        · exact fun b hb hb'=>h.ap t t' hne b (sub t ht b hb) (sub t' ht' b hb')
  unfold Gb.put at hk
  cases hmd:av.ment d with
  | true=>rw [hmd] at hk; simp at hk
  | false=>
  rw [hmd] at hk
  simp only [cond_false] at hk
  cases hr:isRes (lk e d) with
  | true =>
    rw [hr] at hk
    simp only [cond_true] at hk
    rw [mapK_eq] at hk
    have hl : ∀ t,lk (mapE (klA d) e) t = klA d (lk e t):=fun t=>lk_mapE rfl e t
    refine ⟨_,hk,fin hmd _ (fun t _=>?_) (fun t s _ hms=>?_) (fun s hsr _=>?_)⟩
    · rw [hl]; exact klA_or d _
    · rw [hl] at hms
      exact (klA_ment hms).2
    · rw [hl]; exact klA_res hsr
  | false =>
    rw [hr] at hk
    simp only [cond_false] at hk
    refine ⟨_,hk,fin hmd e (fun t _=>.inl rfl) (fun t s _ hms=>?_) (fun s _ _=>rfl)⟩
    intro e'; subst e'
    have:=h.inv t s hms
    rw [hr] at this; simp at this
end
end Go.Gb

/- General part of the proofs: each operation that writes to nothing does what the evaluator says. -/
namespace Go.Gb
variable {T:Tb} {R:Type}

/-! types and parts -/
theorem tyB_sz {P:Program} {t:TypeId} {u:Tp} (h:tyB P T t u = true):(P.info? t).map (·.size) = some (T.e u).sz:=by
  unfold tyB at h
  rw [Bool.and_eq_true] at h
  have h:=h.2
  cases hi:P.info? t with
  | none=>rw [hi] at h; simp at h
  | some i=>rw [hi] at h; simpa using h
theorem tyB_ok {P:Program} {t:TypeId} {u:Tp} (h:tyB P T t u = true):Ty P t (T.D u):=by
  refine ⟨?_,tyB_sz h⟩
  unfold tyB at h
  rw [Bool.and_eq_true] at h
  have h:=h.1
  cases hi:P.underlying t with
  | none=>rw [hi] at h; simp at h
  | some d=>rw [hi] at h; exact ⟨d,rfl,by simpa using h⟩
theorem slOf_ok {P:Program} {t e:TypeId} (h:slOf P t = some e):P.underlying t = some (.slice e):=by
  unfold slOf at h
  split at h
  · rename_i h'; rw [h', Option.some.inj h]
  · simp at h
theorem elB_ok {P:Program} {e:TypeId} {u:Tp} (h:elB P T e u = true):ElemOk P e (T.D u):=by
  unfold elB at h
  cases hi:P.info? e with
  | none=>rw [hi] at h; simp at h
  | some i =>
    rw [hi] at h
    simp only [Bool.and_eq_true] at h
    obtain ⟨⟨⟨h1,h2⟩,h3⟩,h4⟩:=h
    cases hz:i.zero with
    | none=>rw [hz] at h1; simp at h1
    | some z =>
      rw [hz] at h1
      exact ⟨i,z,hi,hz,by simpa [szT] using h2,by simpa [szT] using h1,Nat.lt_of_lt_of_le Nat.zero_lt_one (by simpa [szT] using Nat.le_of_ble_eq_true h3),Nat.le_of_ble_eq_true h4⟩
theorem fldOff_ok {P:Program} {s f off:Nat} (h:fldOff P s f = some off):FieldOk P s f off:=by
  unfold fldOff at h
  split at h
  · rename_i fs hu
    split at h
    · rename_i d hd
      split at h
      · rename_i i hi
        split at h
        · simp at h
        · rename_i m hm
          exact ⟨fs,d,m,hu,hd,Option.some.inj h,by rw [hi]; simp [hm]⟩
      · simp at h
    · simp at h
  · simp at h

theorem hlens_ok : ∀ {l:List Tp} {i:Nat} {u:Tp} {L:HLens T l u},hlens l i = some ⟨u,L⟩ →
    (∀ (x:HL T.S l) (ad:Addr) (k:K),At x ad k → At (L.get x) (ad.add L.off) k)∧Upd L.off L.set∧L.off + (T.e u).sz ≤ (T.h l).sz
  | [],_,_,_,h=>by simp [hlens] at h
  | [a], 0, u, L, h => by
    simp only [hlens,Option.some.injEq,Sigma.mk.injEq] at h
    obtain ⟨rfl,h⟩:=h
    have h:=eq_of_heq h
    subst h
    exact ⟨fun x ad k hx=>At.zero hx,Upd.self,Nat.le_of_eq (Nat.zero_add _)⟩
  | [a],_ + 1,_,_,h=>by simp [hlens] at h
  | a :: b :: l, 0, u, L, h => by
    simp only [hlens,Option.some.injEq,Sigma.mk.injEq] at h
    obtain ⟨rfl,h⟩:=h
    have h:=eq_of_heq h
    subst h
    exact ⟨fun x ad k hx=>At.zero (At.fst hx),Upd.fst Upd.self,by show 0 + (T.e a).sz ≤ (T.e a).sz + (T.h (b::l)).sz; omega⟩
  | a :: b :: l, i + 1, u, L, h => by
    simp only [hlens] at h
    split at h
    · rename_i u' L' hl
      obtain ⟨h1,h2,h3⟩:=hlens_ok hl
      simp only [Option.some.injEq,Sigma.mk.injEq] at h
      obtain ⟨rfl,h⟩:=h
      have h:=eq_of_heq h
      subst h
      refine ⟨fun x ad k hx=>?_,Upd.snd h2,by show (T.e a).sz + L'.off + (T.e u').sz ≤ (T.e a).sz + (T.h (b::l)).sz; omega⟩
      have:=h1 _ _ _ (At.snd hx)
      rw [add_add] at this
      exact this
    · simp at h
theorem at_st {n:Nat} {x:T.S n} {ad:Addr} {k:K} : @At (T.D (.st n)) (T.e (.st n)) x ad k ↔ At (T.to n x) ad k:=by
  show @At (T.S n) (T.enc n) x ad k ↔ _
  rw [T.enc_eq n]; exact Iff.rfl
theorem rep_st {n:Nat} {x:T.S n} {k:K} {cs:List Value} : @Enc.rep (T.D (.st n)) (T.e (.st n)) k cs x ↔ Enc.rep k cs (T.to n x):=by
  show @Enc.rep (T.S n) (T.enc n) k cs x ↔ _
  rw [T.enc_eq n]; exact Iff.rfl
theorem sz_st {n:Nat}:(T.e (.st n)).sz = (T.h (T.fs n)).sz:=by
  show (T.enc n).sz = _
  rw [T.enc_eq n]; rfl
theorem agg_st {n:Nat}:(T.e (.st n)).agg = true:=by
  show (T.enc n).agg = _
  rw [T.enc_eq n]; rfl
theorem cast?_eq' {S:Nat → Type} {a b:Tp} {x:a.den S} {y:b.den S} (h:cast? a b x = some y) : ∃ e:a = b,y = e ▸ x:=by
  unfold cast? at h
  split at h
  · rename_i q _; exact ⟨q.down,(Option.some.inj h).symm⟩
  · simp at h
theorem partsH_rep {k:K} {t:Tp} : ∀ {l:List Tp} {x:HL T.S l} {xs:List (T.D t)} {cs:List Value},partsH t l x = some xs → Enc.rep k cs x → ∀ j (hj:j < xs.length),Enc.rep k ((cs.drop (j * (T.e t).sz)).take (T.e t).sz) xs[j]
  | [], x, xs, cs, h, hr, j, hj => by
    simp only [partsH,Option.some.injEq] at h
    subst h; simp at hj
  | [a], x, xs, cs, h, hr, j, hj => by
    simp only [partsH] at h
    split at h
    · rename_i y hy
      obtain rfl:=Option.some.inj h
      obtain ⟨rfl,rfl⟩:=cast?_eq' hy
      have h0:j = 0:=by simp at hj; omega
      subst h0
      have hr' : Enc.rep (α:=T.D a) k cs _:=hr
      have hl:cs.length = (T.e a).sz:=Enc.len hr'
      rw [Nat.zero_mul,List.drop_zero,← hl,List.take_length]
      exact hr'
    · simp at h
  | a :: b :: l, x, xs, cs, h, hr, j, hj => by
    simp only [partsH] at h
    split at h
    · rename_i y r hy h1
      obtain rfl:=Option.some.inj h
      obtain ⟨rfl,rfl⟩:=cast?_eq' hy
      obtain ⟨hl,h2,h3⟩:=hr
      cases j with
      | zero =>
        rw [Nat.zero_mul,List.drop_zero]
        exact h2
      | succ j =>
        have:=partsH_rep (cs:=cs.drop (T.e a).sz) h1 h3 j (by simpa using hj)
        rw [List.drop_drop] at this
        rw [Nat.succ_mul,Nat.add_comm]
        exact this
    · simp at h
theorem partsN_rep {k:K} {t:Tp} {l:List Tp} {x:HL T.S l} {xs:List (T.D t)} {cs:List Value} (h:partsN l x = some ⟨t,xs⟩) (hr:Enc.rep k cs x) : ∀ j (hj:j < xs.length),Enc.rep k ((cs.drop (j * (T.e t).sz)).take (T.e t).sz) xs[j]:=by
  unfold partsN at h
  split at h
  · simp at h
  · split at h
    · rename_i r hr1
      simp only [Option.some.injEq,Sigma.mk.injEq] at h
      obtain ⟨rfl,h⟩:=h
      obtain rfl:=eq_of_heq h
      exact partsH_rep hr1 hr
    · simp at h
  · split at h
    · rename_i r hr1
      simp only [Option.some.injEq,Sigma.mk.injEq] at h
      obtain ⟨rfl,h⟩:=h
      obtain rfl:=eq_of_heq h
      exact partsH_rep hr1 hr
    · simp at h
theorem partsH_at {k:K} {t:Tp} : ∀ {l:List Tp} {x:HL T.S l} {xs:List (T.D t)} {ad:Addr},partsH t l x = some xs → At x ad k → ∀ j (hj:j < xs.length),At xs[j] (ad.add (j * (T.e t).sz)) k
  | [], x, xs, ad, h, hr, j, hj => by
    simp only [partsH,Option.some.injEq] at h
    subst h; simp at hj
  | [a], x, xs, ad, h, hr, j, hj => by
    simp only [partsH] at h
    split at h
    · rename_i y hy
      obtain rfl:=Option.some.inj h
      obtain ⟨rfl,rfl⟩:=cast?_eq' hy
      have h0:j = 0:=by simp at hj; omega
      subst h0
      rw [Nat.zero_mul]
      exact At.zero hr
    · simp at h
  | a :: b :: l, x, xs, ad, h, hr, j, hj => by
    simp only [partsH] at h
    split at h
    · rename_i y r hy h1
      obtain rfl:=Option.some.inj h
      obtain ⟨rfl,rfl⟩:=cast?_eq' hy
      cases j with
      | zero =>
        rw [Nat.zero_mul]
        exact At.zero (At.fst hr)
      | succ j =>
        have:=partsH_at h1 (At.snd hr) j (by simpa using hj)
        rw [add_add] at this
        have e1:(j + 1) * (T.e a).sz = (T.e a).sz + j * (T.e a).sz:=by rw [Nat.succ_mul,Nat.add_comm]
        rw [e1]
        exact this
    · simp at h
theorem partsN_at {k:K} {t:Tp} {l:List Tp} {x:HL T.S l} {xs:List (T.D t)} {ad:Addr} (h:partsN l x = some ⟨t,xs⟩) (hr:At x ad k) : ∀ j (hj:j < xs.length),At xs[j] (ad.add (j * (T.e t).sz)) k:=by
  unfold partsN at h
  split at h
  · simp at h
  · split at h
    · rename_i r hr1
      simp only [Option.some.injEq,Sigma.mk.injEq] at h
      obtain ⟨rfl,h⟩:=h
      obtain rfl:=eq_of_heq h
      exact partsH_at hr1 hr
    · simp at h
  · split at h
    · rename_i r hr1
      simp only [Option.some.injEq,Sigma.mk.injEq] at h
      obtain ⟨rfl,h⟩:=h
      obtain rfl:=eq_of_heq h
      exact partsH_at hr1 hr
    · simp at h
theorem flens_ok {n i:Nat} {u:Tp} {L:Lens T (.st n) u} (h:flens n i = some ⟨u,L⟩):L.ok:=by
  unfold flens at h
  split at h
  · rename_i u' L' hl
    obtain ⟨h1,h2,h5⟩:=hlens_ok hl
    simp only [Option.some.injEq,Sigma.mk.injEq] at h
    obtain ⟨rfl,h⟩:=h
    have h:=eq_of_heq h
    subst h
    refine ⟨fun x ad k hx=>h1 _ _ _ (at_st.1 hx),fun k cs cy x y hx hy=>?_,by rw [sz_st]; exact h5⟩
    obtain ⟨h3,h4⟩:=h2 k cs cy _ y (rep_st.1 hx) hy
    refine ⟨by rw [sz_st]; exact h3,rep_st.2 ?_⟩
    rw [T.to_of]; exact h4
  · simp at h
theorem Lens.id_ok {t:Tp}:(Lens.id (T:=T) t).ok:=⟨fun x ad k hx=>At.zero hx,Upd.self,Nat.le_of_eq (Nat.zero_add _)⟩
theorem Upd.comp {α β γ:Type} [Enc α] [Enc β] [Enc γ] {o p:Nat} {g:α → β} {s:α → β → α} {r:β → γ → β} (h:Upd o s) (hg : ∀ (k:K) (cs:List Value) (x:α),Enc.rep k cs x → Enc.rep k ((cs.drop o).take (Enc.sz β)) (g x))
    (h' : Upd p r):Upd (α:=α) (β:=γ) (o + p) (fun x y=>s x (r (g x) y)):=by
  intro k cs cy x y hx hy
  have hg:=hg k cs x hx
  obtain ⟨h1,h2⟩:=h' k _ cy _ y hg hy
  obtain ⟨h3,h4⟩:=h k cs _ x _ hx h2
  have l1:=Enc.len hx
  have l2:=Enc.len hy
  have l3:=Enc.len h2
  refine ⟨by omega,?_⟩
  have e:cs.take (o + p) ++ cy ++ cs.drop (o + p + cy.length) = cs.take o ++ (((cs.drop o).take (Enc.sz β)).take p ++ cy ++ ((cs.drop o).take (Enc.sz β)).drop (p + cy.length)) ++ cs.drop (o + (((cs.drop o).take (Enc.sz β)).take p ++ cy ++ ((cs.drop o).take (Enc.sz β)).drop (p + cy.length)).length):=by
    rw [l3,List.take_take,Nat.min_eq_left (by omega),List.take_add]
    simp only [List.append_assoc]
    congr 3
    rw [List.drop_take,List.drop_drop]
    have e2:cs.drop (o + Enc.sz β) = (cs.drop (o + p + cy.length)).drop (Enc.sz β - (p + cy.length)):=by
      rw [List.drop_drop]; congr 1; omega
    rw [e2,show o + (p + cy.length) = o + p + cy.length by omega,List.take_append_drop]
  rw [e]; exact h4
theorem lens_rep {α β:Type} [Enc α] [Enc β] {o:Nat} {g:α → β} (hsz : ∀ (k:K) (cs:List Value) (x:α),Enc.rep k cs x → o + Enc.sz β ≤ Enc.sz α) (h : ∀ (x:α) (ad:Addr) (k:K),At x ad k → At (g x) (ad.add o) k)
    (k:K) (cs:List Value) (x:α) (hx:Enc.rep k cs x):Enc.rep k ((cs.drop o).take (Enc.sz β)) (g x):=by
  let w' : World:={ k.w with heap:=k.w.heap.push (.cells cs.toArray 0 (0,0)) }
  have hlt : ∀ b,k.sh b → b < w'.heap.size:=fun b hb=>by have:=k.lt b hb; simp [w']; omega
  let k' : K := ⟨w', k.sh, hlt⟩
  have hle : Le k k' := ⟨fun b hb => by simp [k', w', Array.getElem?_push, Nat.ne_of_lt (k.lt b hb)], fun _ h => h⟩
  have hat : At x ⟨k.w.heap.size, 0, none⟩ k' := ⟨cs, Enc.mono hle hx, rfl, cs.toArray, 0, (0, 0), by simp [k', w'], by simp, fun j hj => by simp⟩
  obtain ⟨ds,hr,hc⟩:=h _ _ _ hat
  obtain ⟨_, arr, t, fr, hh, hsz', hj⟩ := hc
  have l:=Enc.len hr
  have lx:=Enc.len hx
  have hs:=hsz k cs x hx
  have ea:(Addr.add ⟨k.w.heap.size,0,none⟩ o).block = k.w.heap.size∧(Addr.add ⟨k.w.heap.size,0,none⟩ o).off = o:=by
    unfold Addr.add; split <;> simp_all
  rw [ea.1] at hh
  simp only [k', w', Array.getElem?_push, if_true, Option.some.injEq, Obj.cells.injEq] at hh
  obtain ⟨rfl,_⟩:=hh
  have ed:ds = (cs.drop o).take (Enc.sz β):=by
    refine List.ext_getElem? fun j=>?_
    by_cases hjl:j < ds.length
    · have := hj j hjl
      rw [ea.2] at this
      rw [List.getElem?_take,if_pos (by omega),List.getElem?_drop,← this]
      simp
    · rw [List.getElem?_eq_none (by omega),List.getElem?_eq_none (by simp; omega)]
  rw [← ed]
  refine Enc.mono (k:=k') (k':=k) ⟨fun b hb=>?_,fun _ h=>h⟩ hr
  have:=k.lt b hb
  simp [k', w', Array.getElem?_push, Nat.ne_of_lt this]
theorem Lens.comp_ok {t u w:Tp} {L:Lens T t u} {M:Lens T u w} (h:L.ok) (g:M.ok):(L.comp M).ok:=by
  have hs:=h.2.2; have hs':=g.2.2
  refine ⟨fun x ad k hx=>?_,Upd.comp h.2.1 (fun k cs x hx=>lens_rep (fun _ _ _ _=>hs) h.1 k cs x hx) g.2.1,by show L.off + M.off + _ ≤ _; omega⟩
  have:=g.1 _ _ _ (h.1 _ _ _ hx)
  rw [add_add] at this; exact this
end Go.Gb

/- General part of the proofs: each operation that writes to nothing does what the evaluator says. -/
namespace Go.Gb
variable {T:Tb} {R:Type}

def Opk (e:Env T) (a0 a:Act) (k:K):Operand → Prop
  | .tmp t=>(lk e t).is a0 (a.get t) k∧(isRes (lk e t) = true → a.get t = a0.get t)
  | .global _=>GOk T k
  | _=>True
/-- What is known of the operands. -/
structure Rd1 (e:Env T) (o:Oper) (a0 a:Act) (k:K):Prop where
  op : ∀ x ∈ o.op.operands.toList,Opk e a0 a k x
  rs : ∀ s,isRes (lk e s) = true → (lk e s).is a0 (a0.get s) k
  gl:GOk T k

theorem cast?_eq {S:Nat → Type} {a b:Tp} {x:a.den S} {y:b.den S} (h:cast? a b x = some y) : ∃ e:a = b,y = e ▸ x:=by
  unfold cast? at h
  split at h
  · rename_i e _; exact ⟨e.down,(Option.some.inj h).symm⟩
  · simp at h
section
variable {e:Env T} {a0 a:Act} {k:K} {P:Program} {o:Oper}
theorem nrm_is {av:AV T} {v:Value} (h:av.is a0 v k):(nrm av).is a0 v k:=by
  cases av with
  | fl t xs=>exact h.2
  | _=>exact h
theorem nrm_ment {av:AV T} {s:Nat} (h:(nrm av).ment s = true):av.ment s = true:=by
  cases av with
  | fl t xs=>simp [nrm,AV.ment] at h
  | _=>exact h
theorem opv_is {x:Operand} (h:Opk e a0 a k x):(opv e x).is a0 (a.eval x) k:=by
  cases x with
  | tmp t=>exact nrm_is h.1
  | const v =>
    unfold opv
    split
    all_goals try trivial
    all_goals rename_i heq; try (injection heq with heq)
    all_goals try (subst heq)
    · exact isV_int.2 rfl
    · exact isV_ik.2 rfl
    · exact isV_bool.2 rfl
    · exact isV_str.2 rfl
    · exact isE0_nil (k:=k)
  | global g =>
    unfold opv
    dsimp only
    split
    · rename_i t x e1; exact h.1 g t x e1
    · trivial
  | func f=>trivial
theorem opv_ment {x:Operand} (hi : ∀ t s,(lk e t).ment s = true → isRes (lk e s) = true) : ∀ s,(opv e x).ment s = true → isRes (lk e s) = true:=by
  intro s h
  cases x with
  | tmp t=>exact hi t s (nrm_ment h)
  | const v=>unfold opv at h; split at h <;> first | (simp [AV.ment] at h; done) | skip; rename_i heq; cases heq
  | global g=>unfold opv at h; dsimp only at h; split at h <;> simp [AV.ment] at h
  | func f=>simp [opv,AV.ment] at h
theorem mvv_is {x:Operand} (h:Opk e a0 a k x):(mvv e x).is a0 (a.eval x) k:=by
  cases x with
  | tmp t =>
    unfold mvv; dsimp only
    split
    · rename_i heq; exact h.2 (by rw [heq]; rfl)
    · rename_i heq; exact h.2 (by rw [heq]; rfl)
    · rename_i heq; exact h.2 (by rw [heq]; rfl)
    · rename_i heq; exact h.2 (by rw [heq]; rfl)
    · exact h.1
  | _=>exact opv_is h
theorem mvv_ment {x:Operand} (hi : ∀ t s,(lk e t).ment s = true → isRes (lk e s) = true) : ∀ s,(mvv e x).ment s = true → isRes (lk e s) = true:=by
  intro s h
  cases x with
  | tmp t =>
    unfold mvv at h; dsimp only at h
    split at h
    · rename_i heq; rw [← Nat.eq_of_beq_eq_true h,heq]; rfl
    · rename_i heq; rw [← Nat.eq_of_beq_eq_true h,heq]; rfl
    · rename_i heq; rw [← Nat.eq_of_beq_eq_true h,heq]; rfl
    · rename_i heq; rw [← Nat.eq_of_beq_eq_true h,heq]; rfl
    · exact hi t s h
  | const v=>exact opv_ment (x:=.const v) hi s h
  | global g=>exact opv_ment (x:=.global g) hi s h
  | func f=>exact opv_ment (x:=.func f) hi s h
theorem mvv_nonres {x:Operand}:isRes (mvv e x) = false:=by
  cases x with
  | tmp t =>
    unfold mvv; dsimp only
    split
    · rfl
    · rfl
    · rfl
    · rfl
    · rename_i h1 h2 h3 h4
      generalize hx:lk e t = y at *
      cases y with
      | own l el t xs=>exact absurd rfl (h1 l el t xs)
      | box l t x=>exact absurd rfl (h2 l t x)
      | rs l m x=>exact absurd rfl (h3 l m x)
      | tr lf κ x l=>exact absurd rfl (h4 lf κ x l)
      | _=>rfl
  | const v=>unfold mvv opv; dsimp only; split <;> first | rfl | (rename_i heq; cases heq)
  | global g=>unfold mvv opv; dsimp only; split <;> rfl
  | func f=>rfl
theorem asT_is {t:Tp} {av:AV T} {y:T.D t} {v:Value} (h:asT t av = some y) (hv:av.is a v k):IsV y v k:=by
  unfold asT at h
  split at h
  · obtain ⟨rfl,rfl⟩:=cast?_eq h; exact hv
  · split at h
    · obtain rfl:=Option.some.inj h; exact IsE0.isV hv
    · simp at h
  · split at h
    · rename_i t
      obtain ⟨rfl,rfl⟩:=cast?_eq h; exact isV_rfT.2 hv
    · simp at h
  · simp at h
theorem asI_is {av:AV T} {n:Int} {v:Value} (h:asI av = some n) (hv:av.is a v k):IsV n v k:=by
  unfold asI at h
  split at h
  · obtain rfl:=Option.some.inj h; exact hv
  · simp at h
theorem asB_is {av:AV T} {n:Bool} {v:Value} (h:asB av = some n) (hv:av.is a v k):IsV n v k:=by
  unfold asB at h
  split at h
  · obtain rfl:=Option.some.inj h; exact hv
  · simp at h
theorem res_is {av:AV T} {v:Value} (h:av.is a0 v k) (hm : ∀ s,av.ment s = true → isRes (lk e s) = true) (hr : ∀ s,isRes (lk e s) = true → (lk e s).is a0 (a0.get s) k):(res e av).is a0 v k:=by
  unfold res
  split
  · rename_i s
    rw [show v = a0.get s from h]
    exact hr s (hm s (Nat.beq_refl s))
  · exact h
theorem asL_is {av:AV T} {t:Tp} {xs:List (T.D t)} {v:Value} (hl:asL e av = some ⟨t,xs⟩) (h:av.is a0 v k) (hm : ∀ s,av.ment s = true → isRes (lk e s) = true) (hr : ∀ s,isRes (lk e s) = true → (lk e s).is a0 (a0.get s) k) :
    Readable xs v k:=by
  have hres:=res_is h hm hr
  unfold asL at hl
  split at hl
  · rename_i heq; rw [heq] at hres
    simp only [Option.some.injEq,Sigma.mk.injEq] at hl
    obtain ⟨rfl,hl⟩:=hl
    obtain rfl:=eq_of_heq hl
    exact IsV.rd hres
  · rename_i heq; rw [heq] at hres
    simp only [Option.some.injEq,Sigma.mk.injEq] at hl
    obtain ⟨rfl,hl⟩:=hl
    obtain rfl:=eq_of_heq hl
    exact IsOwn.rd hres
  · rename_i heq; rw [heq] at hres
    obtain ⟨F,hres⟩:=hres
    exact IsV.rd (T.RLok _ _ _ _ _ _ _ hres hl)
  · simp at hl
theorem ok_fieldRef {α β:Type} [Enc α] [Enc β] {s f off:Nat} {x:Operand} {y:α} {z:β} (ho:o.op = .fieldAddr s x f) (hf:FieldOk P s f off)
    (hp : ∀ ad k,At y ad k → At z (ad.add off) k) (h:IsRef y (a.eval x) k):Does P o a k (IsRef z):=by
  obtain ⟨ad,e,hs,hat⟩:=h
  refine does_pure (v:=.pointer (some (ad.add off))) ?_ ⟨_,rfl,by rw [add_block]; exact hs,hp _ _ hat⟩
  simp only [execOp,ho,e]
  simp [run_fieldAt hf]

/-- the operation gives this, whatever order -/
def Gives (P:Program) (e:Env T) (o:Oper) (av:AV T):Prop:=
  (∀ s,av.ment s = true → isRes (lk e s) = true)∧isRes av = false∧∀ a0 a k,Rd1 e o a0 a k → Does P o a k (av.is a0)
theorem gives_m {t:Tp} {x:T.D t} (h : ∀ a0 a k,Rd1 e o a0 a k → Does P o a k (IsV x)):Gives P e o (mkv t x):=
  ⟨fun s h=>by rw [mkv_ment] at h; simp at h,mkv_res,fun a0 a k g=>does_imp (h a0 a k g) fun v k' _ hv=>mkv_is.2 hv⟩
theorem gives_v {t:Tp} {x:T.D t} (h : ∀ a0 a k,Rd1 e o a0 a k → Does P o a k (IsV x)):Gives P e o (.v t x):=
  ⟨fun s h=>by simp [AV.ment] at h,rfl,h⟩

theorem binII_ok {wr:Bool} {op:BinOp} {ty uty:TypeId} {x y:Operand} {n m:Int} {K:AV T → Option R} {r:R} (ho:o.op = .binOp op ty x y uty)
    (hx:opv e x = .v .int n) (hy:opv e y = .v .int m) (h:binII wr op n m K = some r) : ∃ av,K av = some r∧Gives P e o av:=by
  have ix : ∀ a0 a k,Rd1 e o a0 a k → IsV n (a.eval x) k:=fun a0 a k g=>by
    have:=opv_is (g.op x (by rw [ho]; simp [Op.operands])); rw [hx] at this; exact this
  have iy : ∀ a0 a k,Rd1 e o a0 a k → IsV m (a.eval y) k:=fun a0 a k g=>by
    have:=opv_is (g.op y (by rw [ho]; simp [Op.operands])); rw [hy] at this; exact this
  cases op <;> simp only [binII] at h <;> first | (simp at h; done) | skip
  · cases wr with
    | false=>obtain ⟨z,hz,h⟩:=bind_some (show (addI n m).bind _ = _ from h); exact ⟨_,h,gives_v fun a0 a k g=>ok_add ho (ix _ _ _ g) (iy _ _ _ g) hz⟩
    | true=>obtain ⟨z,hz,h⟩:=bind_some (show (addW n m).bind _ = _ from h); exact ⟨_,h,gives_v fun a0 a k g=>ok_addW ho (ix _ _ _ g) (iy _ _ _ g) hz⟩
  · cases wr with
    | false=>obtain ⟨z,hz,h⟩:=bind_some (show (subI n m).bind _ = _ from h); exact ⟨_,h,gives_v fun a0 a k g=>ok_sub ho (ix _ _ _ g) (iy _ _ _ g) hz⟩
    | true=>obtain ⟨z,hz,h⟩:=bind_some (show (subW n m).bind _ = _ from h); exact ⟨_,h,gives_v fun a0 a k g=>ok_subW ho (ix _ _ _ g) (iy _ _ _ g) hz⟩
  · obtain ⟨z,hz,h⟩:=bind_some h; exact ⟨_,h,gives_v fun a0 a k g=>ok_mul ho (ix _ _ _ g) (iy _ _ _ g) hz⟩
  · obtain ⟨z,hz,h⟩:=bind_some h; exact ⟨_,h,gives_v fun a0 a k g=>ok_quo ho (ix _ _ _ g) (iy _ _ _ g) hz⟩
  · obtain ⟨z,hz,h⟩:=bind_some h; exact ⟨_,h,gives_v fun a0 a k g=>ok_rem ho (ix _ _ _ g) (iy _ _ _ g) hz⟩
  · exact ⟨_,h,gives_v fun a0 a k g=>ok_and ho (ix _ _ _ g) (iy _ _ _ g)⟩
  · exact ⟨_,h,gives_v fun a0 a k g=>ok_or ho (ix _ _ _ g) (iy _ _ _ g)⟩
  · exact ⟨_,h,gives_v fun a0 a k g=>ok_andn ho (ix _ _ _ g) (iy _ _ _ g)⟩
  · exact ⟨_,h,gives_v fun a0 a k g=>ok_eqI ho (ix _ _ _ g) (iy _ _ _ g)⟩
  · exact ⟨_,h,gives_v fun a0 a k g=>ok_neI ho (ix _ _ _ g) (iy _ _ _ g)⟩
  · exact ⟨_,h,gives_v fun a0 a k g=>ok_lss ho (ix _ _ _ g) (iy _ _ _ g)⟩
  · exact ⟨_,h,gives_v fun a0 a k g=>ok_leq ho (ix _ _ _ g) (iy _ _ _ g)⟩
  · exact ⟨_,h,gives_v fun a0 a k g=>ok_gtr ho (ix _ _ _ g) (iy _ _ _ g)⟩
  · exact ⟨_,h,gives_v fun a0 a k g=>ok_geq ho (ix _ _ _ g) (iy _ _ _ g)⟩
theorem ok_geS {P:Program} {o:Oper} {a:Act} {k:K} {t u:TypeId} {x y:Operand} {b c:ByteArray} (ho:o.op = .binOp .geq t x y u) (hx:IsV b (a.eval x) k) (hy:IsV c (a.eval y) k):Does P o a k (IsV (!(Op.bytesLess b.toList c.toList))):=by
  have hx:=isV_str.1 hx; have hy:=isV_str.1 hy
  refine does_pure (v:=.bool (!(Op.bytesLess b.toList c.toList))) ?_ (isV_bool.2 rfl)
  simp only [execOp,ho,hx,hy]
  simp [eqGuard,binOp,Op.stringOp]
theorem binV_ok {wr:Bool} {op:BinOp} {ty uty:TypeId} {x y:Operand} {isB:Bool} {eqn:Nat → Bool} {K:AV T → Option R} {r:R} (ho:o.op = .binOp op ty x y uty)
    (hB:isB = true → P.underlying ty = some .bool) (hE : ∀ n,eqn n = true → letI:=T.deq n; @EqOk P ty (T.S n) (T.enc n) (T.deq n))
    (h:binV wr op isB eqn (opv e x) (opv e y) K = some r) : ∃ av,K av = some r∧Gives P e o av:=by
  unfold binV at h
  split at h
  · rename_i hx hy; exact binII_ok ho hx hy h
  · rename_i n m hx hy
    have ix : ∀ a0 a k,Rd1 e o a0 a k → IsV n (a.eval x) k:=fun a0 a k g=>by
      have:=opv_is (g.op x (by rw [ho]; simp [Op.operands])); rw [hx] at this; exact this
    have iy : ∀ a0 a k,Rd1 e o a0 a k → IsV m (a.eval y) k:=fun a0 a k g=>by
      have:=opv_is (g.op y (by rw [ho]; simp [Op.operands])); rw [hy] at this; exact this
    cases isB with
    | false=>simp at h
    | true =>
      simp only [cond_true] at h
      split at h
      · exact ⟨_,h,gives_v fun a0 a k g=>ok_eqB ho (hB rfl) (ix _ _ _ g) (iy _ _ _ g)⟩
      · exact ⟨_,h,gives_v fun a0 a k g=>ok_neB ho (hB rfl) (ix _ _ _ g) (iy _ _ _ g)⟩
      · simp at h
  · rename_i n m hx hy
    have ix : ∀ a0 a k,Rd1 e o a0 a k → IsV n (a.eval x) k:=fun a0 a k g=>by
      have:=opv_is (g.op x (by rw [ho]; simp [Op.operands])); rw [hx] at this; exact this
    have iy : ∀ a0 a k,Rd1 e o a0 a k → IsV m (a.eval y) k:=fun a0 a k g=>by
      have:=opv_is (g.op y (by rw [ho]; simp [Op.operands])); rw [hy] at this; exact this
    split at h
    · exact ⟨_,h,gives_v fun a0 a k g=>ok_eqS ho (ix _ _ _ g) (iy _ _ _ g)⟩
    · exact ⟨_,h,gives_v fun a0 a k g=>ok_neS ho (ix _ _ _ g) (iy _ _ _ g)⟩
    · exact ⟨_,h,gives_v fun a0 a k g=>ok_geS ho (ix _ _ _ g) (iy _ _ _ g)⟩
    · simp at h
  · rename_i n p m q hx hy
    split at h
    · rename_i hs _
      obtain rfl:=hs.down
      have ix : ∀ a0 a k,Rd1 e o a0 a k → @IsV (T.S m) (T.enc m) p (a.eval x) k:=fun a0 a k g=>by
        have:=opv_is (g.op x (by rw [ho]; simp [Op.operands])); rw [hx] at this; exact this
      have iy : ∀ a0 a k,Rd1 e o a0 a k → @IsV (T.S m) (T.enc m) q (a.eval y) k:=fun a0 a k g=>by
        have:=opv_is (g.op y (by rw [ho]; simp [Op.operands])); rw [hy] at this; exact this
      cases hq:eqn m with
      | false=>rw [hq] at h; simp at h
      | true =>
        rw [hq] at h
        simp only [cond_true] at h
        have he:=hE m hq
        split at h
        · exact ⟨_,h,gives_v fun a0 a k g=>@ok_eqA P o a k (T.S m) (T.enc m) (T.deq m) _ _ _ _ _ _ ho he (ix _ _ _ g) (iy _ _ _ g)⟩
        · exact ⟨_,h,gives_v fun a0 a k g=>@ok_neA P o a k (T.S m) (T.enc m) (T.deq m) _ _ _ _ _ _ ho he (ix _ _ _ g) (iy _ _ _ g)⟩
        · simp at h
    · simp at h
  · rename_i κ p κ' q hx hy
    split at h
    · rename_i hs _
      obtain rfl:=hs.down
      have ix : ∀ a0 a k,Rd1 e o a0 a k → IsV p (a.eval x) k:=fun a0 a k g=>by
        have:=opv_is (g.op x (by rw [ho]; simp [Op.operands])); rw [hx] at this; exact this
      have iy : ∀ a0 a k,Rd1 e o a0 a k → IsV q (a.eval y) k:=fun a0 a k g=>by
        have:=opv_is (g.op y (by rw [ho]; simp [Op.operands])); rw [hy] at this; exact this
      split at h
      · exact ⟨_,h,gives_v fun a0 a k g=>ok_addK ho (ix _ _ _ g) (iy _ _ _ g)⟩
      · exact ⟨_,h,gives_v fun a0 a k g=>ok_subK ho (ix _ _ _ g) (iy _ _ _ g)⟩
      · exact ⟨_,h,gives_v fun a0 a k g=>ok_mulK ho (ix _ _ _ g) (iy _ _ _ g)⟩
      · exact ⟨_,h,gives_v fun a0 a k g=>ok_andK ho (ix _ _ _ g) (iy _ _ _ g)⟩
      · exact ⟨_,h,gives_v fun a0 a k g=>ok_gtrK ho (ix _ _ _ g) (iy _ _ _ g)⟩
      · simp at h
    · simp at h
  · simp at h
theorem run_eqP {t s:TypeId} (hu:P.underlying t = some (.pointer s)) (p:Option Addr) (k:K):(Op.equal t (.pointer p) (.pointer none)).run P k.w = .ok p.isNone k.w:=by
  show (Op.equalIn (9999 + 1) t _ _).run P k.w = _
  rw [Op.equalIn]
  cases p <;> simp [run_underlying hu]
theorem ok_eqNilP {t u s:TypeId} {x:Operand} {p:Option Addr} {b:Bool} (ho:o.op = .binOp .eql t x (.const (.pointer none)) u) (hu:P.underlying t = some (.pointer s)) (hx:a.eval x = .pointer p) (hb:p.isNone = b):Does P o a k (IsV b):=by
  have ev:a.eval (.const (.pointer none)) = .pointer none:=rfl
  refine does_pure (v:=.bool b) ?_ (isV_bool.2 rfl)
  simp only [execOp,ho,hx,ev]
  have:=run_eqP hu p k
  simp [eqGuard,binOp,this,hb]
theorem ok_neNilP {t u s:TypeId} {x:Operand} {p:Option Addr} {b:Bool} (ho:o.op = .binOp .neq t x (.const (.pointer none)) u) (hu:P.underlying t = some (.pointer s)) (hx:a.eval x = .pointer p) (hb:p.isNone = b):Does P o a k (IsV (!b)):=by
  have ev:a.eval (.const (.pointer none)) = .pointer none:=rfl
  refine does_pure (v:=.bool (!b)) ?_ (isV_bool.2 rfl)
  simp only [execOp,ho,hx,ev]
  have:=run_eqP hu p k
  simp [eqGuard,binOp,this,hb]
theorem nilT_ok {op:BinOp} {ty uty:TypeId} {x y:Operand} {b:Bool} (ho:o.op = .binOp op ty x y uty) (hi : ∀ t s,(lk e t).ment s = true → isRes (lk e s) = true) (h:nilT P ty e op x y = some b):Gives P e o (.v .bool b):=by
  unfold nilT at h
  split at h
  · rename_i s ps hx hu
    split at h
    · rename_i lck m z hl
      have hm:isRes (lk e s) = true:=by rw [hl]; rfl
      refine gives_v fun a0 a k g=>?_
      have h1:a.eval x = a0.get s:=by
        have:=mvv_is (g.op x (by rw [ho]; simp [Op.operands])); rw [hx] at this; exact this
      have h2:=g.rs s hm
      rw [hl] at h2
      obtain ⟨F,h2⟩:=h2
      split at h
      · rename_i b' hb
        obtain rfl:=Option.some.inj h
        obtain ⟨p,h3,h4⟩:=T.RNok _ _ _ _ _ _ h2 hb
        exact ok_eqNilP ho hu (h1.trans h3) h4
      · rename_i b' hb
        obtain rfl:=Option.some.inj h
        obtain ⟨p,h3,h4⟩:=T.RNok _ _ _ _ _ _ h2 hb
        exact ok_neNilP ho hu (h1.trans h3) h4
      · simp at h
    · simp at h
  · simp at h
theorem shAmt_is {av : AV T} {m : Int} {v : Value} (h : shAmt av = some m) (hv : av.is a v k) : ∃ κ', v = .int κ' m := by
  unfold shAmt at h
  split at h
  · obtain rfl:=Option.some.inj h; exact ⟨_,isV_int.1 hv⟩
  · obtain rfl:=Option.some.inj h; exact ⟨_,isV_ik.1 hv⟩
  · simp at h
theorem shiftV_ok {op:BinOp} {ty uty:TypeId} {x y:Operand} {m:Int} {K:AV T → Option R} {r:R} (ho:o.op = .binOp op ty x y uty) (hm:shAmt (opv e y) = some m)
    (h:shiftV op (opv e x) m K = some r) : ∃ av,K av = some r∧Gives P e o av:=by
  have iy : ∀ a0 a k, Rd1 e o a0 a k → ∃ κ', a.eval y = .int κ' m := fun a0 a k g => shAmt_is hm (opv_is (g.op y (by rw [ho]; simp [Op.operands])))
  unfold shiftV at h
  split at h
  · rename_i n hx
    have ix : ∀ a0 a k,Rd1 e o a0 a k → IsV n (a.eval x) k:=fun a0 a k g=>by
      have:=opv_is (g.op x (by rw [ho]; simp [Op.operands])); rw [hx] at this; exact this
    split at h
    · obtain ⟨z,hz,h⟩:=bind_some h; exact ⟨_,h,gives_v fun a0 a k g=>ok_shl ho (ix _ _ _ g) (iy _ _ _ g) hz⟩
    · obtain ⟨z,hz,h⟩:=bind_some h; exact ⟨_,h,gives_v fun a0 a k g=>ok_shr ho (ix _ _ _ g) (iy _ _ _ g) hz⟩
    · simp at h
  · rename_i κ p hx
    have ix : ∀ a0 a k,Rd1 e o a0 a k → IsV p (a.eval x) k:=fun a0 a k g=>by
      have:=opv_is (g.op x (by rw [ho]; simp [Op.operands])); rw [hx] at this; exact this
    cases hb:(decide (0 ≤ m) && Nat.ble m.toNat κ.bits) with
    | false=>rw [hb] at h; simp at h
    | true =>
      rw [hb] at h; simp only [cond_true] at h
      simp only [Bool.and_eq_true,decide_eq_true_eq] at hb
      have h1:=Nat.le_of_ble_eq_true hb.2
      split at h
      · exact ⟨_,h,gives_v fun a0 a k g=>ok_shrKI ho (ix _ _ _ g) (iy _ _ _ g) hb.1 h1⟩
      · exact ⟨_,h,gives_v fun a0 a k g=>ok_shlKI ho (ix _ _ _ g) (iy _ _ _ g) hb.1 h1⟩
      · simp at h
  · simp at h
end
end Go.Gb

/- General part of the proofs: each operation that writes to nothing does what the evaluator says, continued. -/
namespace Go.Gb
variable {T:Tb} {R:Type}
section
variable {e:Env T} {a0 a:Act} {k:K} {P:Program} {o:Oper}

theorem ok_fieldAb {s f off b m:Nat} {x:Operand} (ho:o.op = .fieldAddr s x f) (hf:FieldOk P s f off) (h:a.eval x = .pointer (some ⟨b,m,none⟩)):Does P o a k (fun v _=>v = .pointer (some ⟨b,m + off,none⟩)):=by
  refine does_pure (v:=.pointer (some ⟨b,m + off,none⟩)) ?_ rfl
  simp only [execOp,ho,h]
  have e:(Addr.add ⟨b,m,none⟩ off) = ⟨b,m + off,none⟩:=by unfold Addr.add; split <;> simp_all
  simp [run_fieldAt hf,e]
theorem fieldV_ok {s f:Nat} {x:Operand} {K:AV T → Option R} {r:R} (ho:o.op = .fieldAddr s x f) (hi : ∀ t s,(lk e t).ment s = true → isRes (lk e s) = true)
    (h:fieldV P s f (mvv e x) (lk e) K = some r) : ∃ av,K av = some r∧Gives P e o av:=by
  have ix : ∀ a0 a k,Rd1 e o a0 a k → (mvv e x).is a0 (a.eval x) k:=fun a0 a k g=>mvv_is (g.op x (by rw [ho]; simp [Op.operands]))
  have im:=mvv_ment (x:=x) hi
  generalize mvv e x = y at h ix im
  unfold fieldV at h
  cases hoff:fldOff P s f with
  | none=>rw [hoff] at h; simp at h
  | some off=>
  rw [hoff] at h
  have hf:=fldOff_ok hoff
  dsimp only at h
  cases hav:fieldO f off y (lk e) with
  | none=>rw [hav] at h; simp at h
  | some av=>
  rw [hav] at h
  refine ⟨av,h,?_⟩
  have ext : ∀ {u:Tp} {g:(w:Tp) → Lens T u w → AV T},extF f off u g = some av → ∃ w,∃ L:Lens T u w,L.ok∧L.off = off∧av = g w L:=by
    intro u g hg
    unfold extF at hg
    split at hg
    · split at hg
      · rename_i w L hl
        cases hb:Nat.beq L.off off with
        | false=>rw [hb] at hg; simp at hg
        | true =>
          rw [hb] at hg
          exact ⟨w,L,flens_ok hl,Nat.eq_of_beq_eq_true hb,(Option.some.inj hg).symm⟩
      · simp at hg
    · simp at hg
  unfold fieldO at hav
  split at hav
  · rename_i t z
    obtain ⟨w,L,hL,hLo,rfl⟩:=ext (g:=fun w L=>.ref w (L.get z)) hav
    exact ⟨fun s hs=>by simp [AV.ment] at hs,rfl,fun a0 a k g=>ok_fieldRef ho (by rw [← hLo] at hf; exact hf) (fun ad k' hx=>hL.1 _ _ _ hx) (ix _ _ _ g)⟩
  · rename_i s'
    split at hav
    · rename_i lck t z heq
      obtain ⟨w,L,hL,hLo,rfl⟩:=ext (g:=fun w L=>.ab s' t z w L) hav
      have hres:isRes (lk e s') = true:=im s' (Nat.beq_refl s')
      refine ⟨fun s hs=>by rw [← Nat.eq_of_beq_eq_true hs]; exact hres,rfl,fun a0 a k g=>?_⟩
      have h1:a.eval x = a0.get s':=ix _ _ _ g
      have h2:=g.rs s' hres
      rw [heq] at h2
      obtain ⟨b,h3,h4⟩:=h2
      refine does_imp (ok_fieldAb ho hf (h1.trans h3)) fun v k' hg hv=>⟨hL,b,h3,by rw [hv,hLo,Nat.zero_add],h4.grow hg⟩
    · simp at hav
  · rename_i s' t z u M
    obtain ⟨w,L,hL,hLo,rfl⟩:=ext (g:=fun w L=>.ab s' t z w (M.comp L)) hav
    refine ⟨fun s hs=>im s hs,rfl,fun a0 a k g=>?_⟩
    obtain ⟨h0,b,h1,h2,h3⟩:=ix _ _ _ g
    exact does_imp (ok_fieldAb ho hf h2) fun v k' hg hv=>⟨Lens.comp_ok h0 hL,b,h1,by rw [hv,← hLo]; rfl,h3.grow hg⟩
  · rename_i s' el t xs i z u M
    obtain ⟨w,L,hL,hLo,rfl⟩:=ext (g:=fun w L=>.ao s' el t xs i z w (M.comp L)) hav
    refine ⟨fun s hs=>im s hs,rfl,fun a0 a k g=>?_⟩
    obtain ⟨h0,h1,h2,h3⟩:=ix _ _ _ g
    refine does_imp (ok_fieldAdrO ho hf h1) fun v k' hg hv=>⟨Lens.comp_ok h0 hL,?_,Mono.mono hg h2,h3⟩
    rw [show i * (T.e t).sz + (M.comp L).off = i * (T.e t).sz + M.off + off by rw [← hLo]; show _ + (M.off + L.off) = _; omega]
    exact hv
  · simp at hav

theorem ab_ptr {s:Nat} {t u:Tp} {x:T.D t} {L:Lens T t u} {v:Value} (h:(AV.ab s t x u L).is a v k):IsPtr (L.get x) v k:=by
  obtain ⟨h0,b,_,h2,h3⟩:=h
  exact ⟨_,h2,by have:=h0.1 _ _ _ h3.at; simp only [Addr.add] at this; split at this <;> simp_all⟩
theorem ao_ptr {s i:Nat} {el:TypeId} {t u:Tp} {xs:List (T.D t)} {x:T.D t} {L:Lens T t u} {v:Value} (h:(AV.ao s el t xs i x u L).is a v k):IsPtr (L.get x) v k:=by
  obtain ⟨h0,h1,h2,h3⟩:=h
  obtain ⟨b,f,n,c,h4,h5⟩:=h1
  rw [h4] at h2
  rcases h2 with ⟨h6, _⟩ | ⟨_, h6, rfl⟩ | ⟨b', off, cap, cur, cs, h6, _, hns, hh, hc1, hc0, hcm, hsz, hcs, hr⟩
  · simp at h6
  · simp at h3
  · simp only [Value.slice.injEq, Option.some.injEq, Addr.mk.injEq] at h6
    obtain ⟨⟨rfl,rfl,_⟩,rfl,rfl⟩:=h6
    have hi:i < xs.length:=(List.getElem?_eq_some_iff.1 h3).1
    have hca:CellsAt k.w ⟨b,f,none⟩ cs:=by
      rw [← hcs]; refine cellsAt_row hh ?_
      have:=Nat.mul_le_mul_right (T.e t).sz hc1
      omega
    have hat:=hca.elem hr h3
    have:=h0.1 _ _ _ hat
    rw [add_add] at this
    refine ⟨_,h5,?_⟩
    have e:(Addr.add ⟨b,f,none⟩ (i * (T.e t).sz + L.off)) = ⟨b,f + (i * (T.e t).sz + L.off),none⟩:=by unfold Addr.add; split <;> simp_all
    rw [← e]; exact this
theorem loadV_ok {ty:TypeId} {x:Operand} {av:AV T} (ho:o.op = .load ty x) (hi : ∀ t s,(lk e t).ment s = true → isRes (lk e s) = true)
    (h:loadV P T ty (mvv e x) (lk e) = some av):Gives P e o av:=by
  have ix : ∀ a0 a k,Rd1 e o a0 a k → (mvv e x).is a0 (a.eval x) k:=fun a0 a k g=>mvv_is (g.op x (by rw [ho]; simp [Op.operands]))
  have im:=mvv_ment (x:=x) hi
  generalize mvv e x = y at h ix im
  unfold loadV at h
  dsimp only at h
  have fin : ∀ {u:Tp} {z:T.D u},(bif tyB P T ty u then some (mkv u z) else none) = some av → (∀ a0 a k,Rd1 e o a0 a k → IsPtr z (a.eval x) k) → Gives P e o av:=by
    intro u z h hp
    cases hb:tyB P T ty u with
    | false=>rw [hb] at h; simp at h
    | true =>
      rw [hb] at h
      obtain rfl:=Option.some.inj h
      exact gives_m fun a0 a k g=>ok_load ho (tyB_ok hb) (hp _ _ _ g)
  split at h
  · exact fin h fun a0 a k g=>(show IsRef _ _ _ from ix _ _ _ g).ptr
  · rename_i s'
    split at h
    · rename_i lck t z heq
      refine fin h fun a0 a k g=>?_
      have h1:a.eval x = a0.get s':=ix _ _ _ g
      have h2:=g.rs s' (im s' (Nat.beq_refl s'))
      rw [heq] at h2
      obtain ⟨b,h3,h4⟩:=h2
      exact ⟨_,h1.trans h3,h4.at⟩
    · simp at h
  · exact fin h fun a0 a k g=>ab_ptr (ix _ _ _ g)
  · exact fin h fun a0 a k g=>ao_ptr (ix _ _ _ g)
  · simp at h

/-! zero values -/
theorem vEq_ok {a b:Value} (h:vEq a b = true):a = b:=by
  unfold vEq at h
  split at h
  · simp only [Bool.and_eq_true,beq_iff_eq] at h; rw [h.1,h.2]
  · simp only [beq_iff_eq] at h; rw [h]
  · rename_i x y
    simp only [Bool.and_eq_true,beq_iff_eq] at h
    obtain ⟨h1,h2⟩:=h
    cases x with | mk dx=>cases y with | mk dy=>
    have e1:dx = #[]:=Array.size_eq_zero_iff.1 h1
    have e2:dy = #[]:=Array.size_eq_zero_iff.1 h2
    rw [e1,e2]
  · rfl
  · simp at h
theorem vsEq_ok : ∀ {l m:List Value},vsEq l m = true → l = m
  | [],[],_=>rfl
  | a :: l, b :: m, h => by
    simp only [vsEq,Bool.and_eq_true] at h
    rw [vEq_ok h.1,vsEq_ok h.2]
  | [],_::_,h=>by simp [vsEq] at h
  | _::_,[],h=>by simp [vsEq] at h
theorem zc_rep : ∀ (f:Nat) (t:Tp) (cs:List Value),zc T f t = some cs → ∀ k,Enc.rep k cs (T.dflt t)
  | 0,_,_,h,_=>by simp [zc] at h
  | _ + 1,.int,_,h,_=>(Option.some.inj h).symm
  | _ + 1,.bool,_,h,_=>(Option.some.inj h).symm
  | _ + 1,.str,_,h,_=>(Option.some.inj h).symm
  | _ + 1,.ik κ,_,h,_=>(Option.some.inj h).symm
  | _ + 1,.list t,_,h,_=>⟨_,(Option.some.inj h).symm,.inl ⟨rfl,rfl⟩⟩
  | _ + 1,.op,_,h,_=>⟨_,(Option.some.inj h).symm,rfl⟩
  | _ + 1,.rf _,_,h,_=>by simp [zc] at h
  | _ + 1,.f0 _,_,h,_=>by simp [zc] at h
  | _ + 1,.f1 _ _,_,h,_=>by simp [zc] at h
  | _ + 1,.f2 _ _ _,_,h,_=>by simp [zc] at h
  | _ + 1,.pv,_,h,_=>by simp [zc] at h
  | f + 1, .st n, cs, h, k => by
    refine rep_st.2 ?_
    show Enc.rep k cs (T.to n (T.zero n))
    rw [T.zero_eq]
    simp only [zc] at h
    have key : ∀ (l:List Tp) (cs:List Value),joinO (l.map (zc T f)) = some cs → Enc.rep k cs (dfltH T.zero l):=by
      intro l
      induction l with
      | nil=>intro cs h; exact (Option.some.inj h).symm
      | cons b l ih =>
        intro cs h
        simp only [List.map_cons,joinO] at h
        split at h
        · rename_i x y hx hy
          obtain rfl:=Option.some.inj h
          have h1:=zc_rep f b x hx k
          have h2:=ih y hy
          have hl:=Enc.len h1
          cases l with
          | nil =>
            have:y = []:=h2
            subst this
            rw [List.append_nil]; exact h1
          | cons c l =>
            refine ⟨?_,?_,?_⟩
            · rw [List.length_append,hl,Enc.len h2]
            · rw [List.take_left' hl]; exact h1
            · rw [List.drop_left' hl]; exact h2
        · simp at h
    exact key _ _ h
theorem zeroB_ok {ty:TypeId} {t:Tp} (h:zeroB P T ty t = true) : ∃ i z cs,P.info? ty = some i∧i.zero = some z∧z.cells = cs∧(∀ w,(zeroValue ty).run P w = .ok z w)∧(∀ k,Enc.rep k cs.toList (T.dflt t))∧∀ k,IsV (T.dflt t) z k:=by
  unfold zeroB at h
  split at h
  · rename_i i hi
    split at h
    · rename_i z cs hz hcs
      have hrep:=zc_rep 9 t cs hcs
      have hrun : ∀ w,(zeroValue ty).run P w = .ok z w:=fun w=>by simp [zeroValue,typeInfo,hi,hz]
      split at h
      · rename_i c
        simp only [Bool.and_eq_true] at h
        obtain ⟨h1,h2⟩:=h
        obtain rfl:=vsEq_ok h2
        exact ⟨i,_,_,hi,hz,rfl,hrun,hrep,fun k=>⟨c.toList,by rw [h1]; simp [mkV],hrep k⟩⟩
      · rename_i hne
        simp only [Bool.and_eq_true,Bool.not_eq_true'] at h
        obtain ⟨h1,h2⟩:=h
        obtain rfl:=vsEq_ok h2
        have hc:z.cells = #[z]:=by cases z <;> first | rfl | exact absurd rfl (hne _)
        exact ⟨i,z,#[z],hi,hz,hc,hrun,hrep,fun k=>⟨[z],by rw [h1]; rfl,hrep k⟩⟩
    · simp at h
  · simp at h
end
end Go.Gb

/- General part of the proofs: each operation that writes to nothing does what the evaluator says: structs, slices, calls; all of them. -/
namespace Go.Gb
variable {T:Tb} {R:Type}

theorem sem_mapM {P:Program} {w:World} {α β:Type} {f:α → Sem β} {g:α → β} : ∀ (l:List α),(∀ x ∈ l,(f x).run P w = .ok (g x) w) → (l.mapM f).run P w = .ok (l.map g) w
  | [],_=>by simp
  | x :: l, h => by
    have h1:=h x (by simp)
    have h2:=sem_mapM l fun y hy=>h y (by simp [hy])
    simp [List.mapM_cons,h1,h2]
theorem sem_mapMA {P:Program} {w:World} {α β:Type} {f:α → Sem β} {g:α → β} (A:Array α) (h : ∀ x ∈ A.toList,(f x).run P w = .ok (g x) w):(A.mapM f).run P w = .ok (A.map g) w:=by
  rw [Array.mapM_eq_mapM_toList]
  have:=sem_mapM (P:=P) (w:=w) A.toList h
  simp [this]
  apply Array.ext'
  simp

def HIs:(l:List Tp) → HL T.S l → List Value → K → Prop
  | [],_,[],_=>True
  | [_],x,[u],k=>IsV x u k
  | _::b::l,x,u::us,k=>IsV x.1 u k∧HIs (b::l) x.2 us k
  | _,_,_,_=>False
/-- A function computes what it is said to. -/
structure FnOk (P:Program) (f:FuncId) (d:FnE T):Prop where
  call : ∀ args w,(callFunc f args).run P w = .ok (.enter f args) w
  ok : ∀ (k0:K) (vs:List Value) (x:HL T.S d.dom) (r:HL T.S d.cod),GOk T k0 → HIs d.dom x vs k0 → d.run x = some r → Calls P f vs.toArray k0.w (Ret k0 fun u k=>(resV d.cod r).is ⟨#[],[]⟩ u k)
/-- The arguments: values, and what is turned (u1) and taken over (u2). -/
def PIs:(l:List Pm) → HL T.S (valsP l) → (u1 u2:Value) → List Value → K → Prop
  | [],_,_,_,[],_=>True
  | .v t::l,x,u1,u2,v::vs,k=>IsV (α:=T.D t) (hdH x) v k∧PIs l (tlH x) u1 u2 vs k
  | .tu::l,x,u1,u2,v::vs,k=>v = u1∧PIs l x u1 u2 vs k
  | .tk::l,x,u1,u2,v::vs,k=>v = u2∧PIs l x u1 u2 vs k
  | .fn g::l,x,u1,u2,v::vs,k=>v = .func (.func g) #[] #[]∧PIs l x u1 u2 vs k
  | _,_,_,_,_,_=>False
/-- What a function leaves that turns, takes over or makes things of its own. -/
structure PostF (d:FnR T) (F:FP) (u1:Value) (r:d.tu.D T × d.ro.D T × HL T.S d.cod) (k0:K) (u:Value) (k:K):Prop where
  tu:d.tu.is r.1 u1 k
  res:(resR d.ro d.cod r.2.1 r.2.2).is ⟨#[],[]⟩ u k
  ap:Apart (d.tu.fp T u1 k) ((resR d.ro d.cod r.2.1 r.2.2).fp u k)
  w1 : ∀ b,d.tu.fp T u1 k b → F b ∨ k0.w.heap.size ≤ b
  w2 : ∀ b,(resR d.ro d.cod r.2.1 r.2.2).fp u k b → F b ∨ k0.w.heap.size ≤ b
structure FnROk (P:Program) (f:FuncId) (d:FnR T):Prop where
  call : ∀ args w,(callFunc f args).run P w = .ok (.enter f args) w
  ok : ∀ (k0:K) (vs:List Value) (u1 u2:Value) (x:HL T.S (valsP d.pm)) (y:d.tu.D T) (z:d.tk.D T) (q:d.ρ),GOk T k0 → PIs d.pm x u1 u2 vs k0 → d.tu.is y u1 k0 → d.tk.is z u2 k0 →
    Apart (d.tu.fp T u1 k0) (d.tk.fp T u2 k0) → d.run x y z = some q →
    Calls P f vs.toArray k0.w (RetC (fun b=>d.tu.fp T u1 k0 b ∨ d.tk.fp T u2 k0 b) k0 (PostF d (fun b=>d.tu.fp T u1 k0 b ∨ d.tk.fp T u2 k0 b) u1 (d.inj q) k0))
structure FnQOk (P:Program) (f:FuncId) (d:FnQ T):Prop where
  call : ∀ args w,(callFunc f args).run P w = .ok (.enter f args) w
  ok : ∀ (k0:K) (u:Value) (vs:List Value) (z:T.RD d.m) (F:FP) (x:HL T.S d.dom) (r:HL T.S d.cod),GOk T k0 → T.RP d.m z F u k0 → HIs d.dom x vs k0 → d.run z x = some r →
    Calls P f (bif d.amb then vs else u::vs).toArray k0.w (Ret k0 fun v k=>(resV d.cod r).is ⟨#[],[]⟩ v k)
structure CxOk (C:Cx T):Prop where
  deps : ∀ f d,dep C.deps f = some d → FnOk C.P f d
  rdeps : ∀ f d,rdep C.rdeps f = some d → FnROk C.P f d
  eqs : ∀ t n,C.eqs.contains (t,n) = true → @EqOk C.P t (T.S n) (T.enc n) (T.deq n)
  mix:C.P.follows .mixedOrders = true
  pe:C.P = T.P
  qdeps : ∀ f d,qdep C.qdeps f = some d → FnQOk C.P f d

section
variable {e:Env T} {a0 a:Act} {k:K} {P:Program} {o:Oper}
theorem args_isF (ov:Operand → AV T) : ∀ {l:List Tp} {xs:List Operand} {z:HL T.S l},args l (xs.map ov) = some z → (∀ x ∈ xs,(ov x).is a0 (a.eval x) k) → HIs l z (xs.map a.eval) k
  | [],[],_,_,_=>trivial
  | [b],[x],z,h,g=>asT_is h (g x (by simp))
  | b :: c :: l, x :: xs, z, h, g => by
    simp only [List.map_cons,args] at h
    split at h
    · rename_i y ys hy hys
      obtain rfl:=Option.some.inj h
      exact ⟨asT_is hy (g x (by simp)),args_isF ov hys fun x' hx'=>g x' (by simp [hx'])⟩
    · simp at h
  | [],_::_,_,h,_=>by simp [args] at h
  | [_],[],_,h,_=>by simp [args] at h
  | [_],_::_::_,_,h,_=>by simp [args] at h
  | _::_::_,[],_,h,_=>by simp [args] at h
theorem HIs.le {k k' : K} (hl:Le k k') : ∀ {l:List Tp} {x:HL T.S l} {vs:List Value},HIs l x vs k → HIs l x vs k'
  | [],_,[],_=>trivial
  | [t],x,[_],h=>Pers.pers (R:=IsV (α:=T.D t) x) hl h
  | t::_::_,x,_::_,h=>⟨Pers.pers (R:=IsV (α:=T.D t) x.1) hl h.1,HIs.le hl h.2⟩
  | [],_,_::_,h=>h.elim
  | [_],_,[],h=>h.elim
  | [_],_,_::_::_,h=>h.elim
  | _::_::_,_,[],h=>h.elim
theorem callsImp {f : FuncId} {vs : Array Value} {w : World} {k : K} {R S : Pred} (h : Calls P f vs w (Ret k R)) (hi : ∀ v k', R v k' → S v k') : Calls P f vs w (Ret k S) := by
  refine Calls.mono h fun e w' he=>?_
  cases e with
  | returned v => obtain ⟨k', h1, h2, h3⟩ := he; exact ⟨k', h1, h2, hi _ _ h3⟩
  | panicked c=>exact he.elim
  | outgrown=>exact he.elim
theorem mkFn_shape : ∀ {dom cod:List Tp} {run:HL T.S dom → Option (HL T.S cod)} {cs:List (AV T)} {av:AV T},mkFn dom cod run cs = some av → (∀ s,av.ment s = false)∧isRes av = false:=by
  intro dom cod run cs av h
  unfold mkFn at h
  split at h
  · split at h
    · split at h
      · obtain rfl:=Option.some.inj h; exact ⟨fun _=>rfl,rfl⟩
      · simp at h
    · split at h
      · obtain rfl:=Option.some.inj h; exact ⟨fun _=>rfl,rfl⟩
      · split at h
        · obtain rfl:=Option.some.inj h; exact ⟨fun _=>rfl,rfl⟩
        · simp at h
      · simp at h
    · split at h
      · obtain rfl:=Option.some.inj h; exact ⟨fun _=>rfl,rfl⟩
      · split at h
        · obtain rfl:=Option.some.inj h; exact ⟨fun _=>rfl,rfl⟩
        · simp at h
      · simp at h
    · simp at h
  · simp at h
/-- a function together with what it holds is a function value -/
theorem mkFn_is {f:FuncId} {d:FnE T} (hP:P = T.P) (hf:FnOk P f d) {cs:List (AV T)} {us:List Value} {av:AV T} (h:mkFn d.dom d.cod d.run cs = some av) (hl:us.length = cs.length)
    (hc : ∀ (l:List Tp) (z:HL T.S l),args l cs = some z → HIs l z us k) (hG:GOk T k) :
    (∀ s,av.ment s = false)∧isRes av = false∧av.is a0 (.func (.func f) #[] us.toArray) k:=by
  subst hP
  obtain ⟨dom,cod,run⟩:=d
  dsimp only at h
  have one : ∀ (b:Tp) (r:T.D b) (vs:Array Value) (k' : K),Calls T.P f vs k'.w (Ret k' fun u k=>(resV [b] r).is ⟨#[],[]⟩ u k) → Calls T.P f vs k'.w (Ret k' (IsV r)):=fun b r vs k' h=>callsImp h fun v k h=>mkv_is.1 h
  unfold mkFn at h
  split at h
  · rename_i b run
    split at h
    · split at h
      · rename_i z hz
        obtain rfl:=Option.some.inj h
        refine ⟨fun _=>rfl,rfl,isV_f0T.2 ⟨f,#[],us.toArray,rfl,hf.call,fun k' hk y hy=>?_⟩⟩
        have:=one b y _ k' (hf.ok k' us z y (hG.le hk) ((hc _ _ hz).le hk) hy)
        simpa using this
      · simp at h
    · rename_i hn
      split at h
      · rename_i a run
        obtain rfl:=Option.some.inj h
        refine ⟨fun _=>rfl,rfl,isV_f1T.2 ⟨f,#[],us.toArray,rfl,hf.call,fun k' hk x vx y hx hy=>?_⟩⟩
        have hu:us = []:=by
          have:us.length = 0:=by rw [hl]; simp at hn; omega
          exact List.length_eq_zero_iff.1 this
        subst hu
        have:=one b y _ k' (hf.ok k' [vx] x y (hG.le hk) hx hy)
        simpa using this
      · rename_i a c l run
        split at h
        · rename_i z hz
          obtain rfl:=Option.some.inj h
          refine ⟨fun _=>rfl,rfl,isV_f1T.2 ⟨f,#[],us.toArray,rfl,hf.call,fun k' hk x vx y hx hy=>?_⟩⟩
          have:=one b y _ k' (hf.ok k' (vx::us) (x,z) y (hG.le hk) ⟨hx,(hc _ _ hz).le hk⟩ hy)
          simpa using this
        · simp at h
      · simp at h
    · rename_i hn
      split at h
      · rename_i a a' run
        obtain rfl:=Option.some.inj h
        refine ⟨fun _=>rfl,rfl,isV_f2T.2 ⟨f,#[],us.toArray,rfl,hf.call,fun k' hk x vx x' vx' y hx hx' hy=>?_⟩⟩
        have hu:us = []:=by
          have:us.length = 0:=by rw [hl]; simp at hn; omega
          exact List.length_eq_zero_iff.1 this
        subst hu
        have:=one b y _ k' (hf.ok k' [vx,vx'] (x,x') y (hG.le hk) ⟨hx,hx'⟩ hy)
        simpa using this
      · rename_i a a' c l run
        split at h
        · rename_i z hz
          obtain rfl:=Option.some.inj h
          refine ⟨fun _=>rfl,rfl,isV_f2T.2 ⟨f,#[],us.toArray,rfl,hf.call,fun k' hk x vx x' vx' y hx hx' hy=>?_⟩⟩
          have := one b y _ k' (hf.ok k' (vx :: vx' :: us) (x, x', z) y (hG.le hk) ⟨hx, hx', (hc _ _ hz).le hk⟩ hy)
          simpa using this
        · simp at h
      · simp at h
    · simp at h
  · simp at h
theorem args_is : ∀ {l:List Tp} {xs:List Operand} {z:HL T.S l},args l (xs.map (opv e)) = some z → (∀ x ∈ xs,(opv e x).is a0 (a.eval x) k) → HIs l z (xs.map a.eval) k:=
  args_isF (opv e)

theorem resV_ment {l:List Tp} {x:HL T.S l} {s:Nat}:(resV l x).ment s = false:=by
  match l,x with
  | [],_=>rfl
  | [_],_=>exact mkv_ment
  | _::_::_,_=>rfl
theorem resV_nonres {l:List Tp} {x:HL T.S l}:isRes (resV l x) = false:=by
  match l,x with
  | [],_=>rfl
  | [_],_=>exact mkv_res
  | _::_::_,_=>rfl
theorem is_act {av:AV T} (h : ∀ s,av.ment s = false) {a a' : Act} {v:Value} {k:K} (hv:av.is a v k):av.is a' v k:=
  av.congr (fun s hs=>by rw [h] at hs; simp at hs) hv

theorem partsL_ok {t:Tp} : ∀ {ps:List (Nat × Operand)} {i:Nat} {xs:List (T.D t)},partsL t e i ps = some xs → (∀ x ∈ ps.map (·.2),(opv e x).is a0 (a.eval x) k) → Parts a k i ps xs
  | [],_,_,h,_=>by obtain rfl:=Option.some.inj h; trivial
  | (j, x) :: l, i, xs, h, g => by
    simp only [partsL] at h
    cases hb:Nat.beq i j with
    | false=>rw [hb] at h; simp at h
    | true =>
      rw [hb] at h
      simp only [cond_true] at h
      split at h
      · rename_i y ys hy hys
        obtain rfl:=Option.some.inj h
        exact ⟨(Nat.eq_of_beq_eq_true hb).symm,asT_is hy (g x (by simp)),partsL_ok hys fun x' hx'=>g x' (by simp at hx' ⊢; exact .inr hx')⟩
      · simp at h

theorem fldPl_ok {ty j off sz:Nat} (h:fldPl P ty j = some (off,sz)) : ∃ fs d i,P.underlying ty = some (.struct fs)∧fs[j]? = some d∧P.info? d.type = some i∧d.offset = off∧i.size = sz:=by
  unfold fldPl at h
  split at h
  · rename_i fs hu
    split at h
    · rename_i d hd
      split at h
      · rename_i i hi
        simp only [Option.some.injEq,Prod.mk.injEq] at h
        exact ⟨fs,d,i,hu,hd,hi,h.1,h.2⟩
      · simp at h
    · simp at h
  · simp at h
theorem buildF_ok {ty n:Nat} {places:Nat → Option (Nat × Nat)} (hpl : ∀ j off sz,fldPl P ty j = some (off,sz) → places j = some (off,sz)) :
    ∀ {ps:List (Nat × Operand)} {x z:T.S n} {cs:List Value},buildF P ty n e ps x = some z → (∀ y ∈ ps.map (·.2),(opv e y).is a0 (a.eval y) k) → @Enc.rep (T.D (.st n)) (T.e (.st n)) k cs x →
    ∃ cs', Instr.fill places cs.toArray (ps.map fun p => (p.1, a.eval p.2)) = some cs'.toArray ∧ @Enc.rep (T.D (.st n)) (T.e (.st n)) k cs' z
  | [],x,z,cs,h,_,hr=>by obtain rfl:=Option.some.inj h; exact ⟨cs,rfl,hr⟩
  | (j, y) :: l, x, z, cs, h, g, hr => by
    simp only [buildF] at h
    split at h
    · rename_i u L off sz hL hp
      split at h
      · rename_i w hw
        cases hb:(Nat.beq off L.off && Nat.beq sz (szT T u)) with
        | false=>rw [hb] at h; simp at h
        | true =>
          rw [hb] at h
          simp only [cond_true] at h
          rw [Bool.and_eq_true] at hb
          have h1:=Nat.eq_of_beq_eq_true hb.1
          have h2:=Nat.eq_of_beq_eq_true hb.2
          have hok:=flens_ok hL
          obtain ⟨cy,hcy,hry,hly⟩:=isV_cellsL (asT_is hw (g y (by simp)))
          obtain ⟨hle,hset⟩:=hok.2.1 k cs cy x w hr hry
          have hlen:=Enc.len hr
          obtain ⟨cs', hf, hr'⟩ := buildF_ok hpl h (fun y' hy' => g y' (by simp at hy' ⊢; exact .inr hy')) hset
          refine ⟨cs', ?_, hr'⟩
          simp only [List.map_cons,Instr.fill,hpl _ _ _ hp]
          have hsz:cy.toArray.size = sz:=by rw [h2]; simpa [szT] using hly
          rw [hcy,if_neg (by
            have hly' : cy.length = (T.e u).sz:=hly
            have:sz = (T.e u).sz:=h2
            simp only [hsz,ne_eq,not_true,decide_false,Bool.false_or,decide_eq_true_eq,List.size_toArray]
            omega)]
          have hfold:=foldl_set cy cy off 0 (cs.take off) (cs.drop off) (by rw [List.length_take]; have hly' : cy.length = (T.e u).sz:=hly; omega) rfl (by
            rw [List.length_drop]; have hly' : cy.length = (T.e u).sz:=hly; omega)
          rw [List.take_append_drop,List.drop_drop] at hfold
          rw [h1] at hfold ⊢
          simp at hfold hf ⊢
          rw [hfold]
          exact hf
      · simp at h
    · simp at h
theorem run_build {ty n:Nat} {ps:List (Nat × Operand)} {z:T.S n} (hz:zeroB P T ty (.st n) = true) (hall:allFld P ty = true) (hb:buildF P ty n e ps (T.zero n) = some z)
    (g : ∀ y ∈ ps.map (·.2),(opv e y).is a0 (a.eval y) k) : ∃ v,(∀ w,(Instr.build ty (ps.map fun p=>(p.1,a.eval p.2)).toArray).run P w = .ok v w)∧@IsV (T.D (.st n)) (T.e (.st n)) z v k:=by
  obtain ⟨i,zv,cs,hi,hiz,hc,hrun,hrep,_⟩:=zeroB_ok hz
  unfold allFld at hall
  split at hall
  · rename_i fs hu
    rw [List.all_eq_true] at hall
    let pl:Field → Nat × Nat:=fun f=>(f.offset,((P.info? f.type).map (·.size)).getD 0)
    have hpl : ∀ w,(fs.mapM fun f=>Prod.mk f.offset <$> sizeOf f.type).run P w = .ok (fs.map pl) w:=fun w=>sem_mapMA fs fun f hf=>by
      have:=hall f hf
      cases hif:P.info? f.type with
      | none=>rw [hif] at this; simp at this
      | some i'=>simp [run_sizeOf (show (P.info? f.type).map (·.size) = some i'.size by rw [hif]; rfl),pl,hif]
    obtain ⟨cs', hf, hr'⟩ := buildF_ok (P := P) (ty := ty) (n := n) (e := e) (a0 := a0) (a := a) (k := k) (places := fun j => (fs.map pl)[j]?) (fun j off sz hp => by
      obtain ⟨fs', d, i', hu', hd, hi', h1, h2⟩ := fldPl_ok hp
      rw [hu] at hu'
      obtain rfl:fs = fs':=by simpa using hu'
      simp [hd, pl, hi', h1, h2]) hb g (hrep k)
    refine ⟨.agg cs'.toArray, fun w => ?_, ⟨cs', by rw [agg_st]; rfl, hr'⟩⟩
    have hc' : zv.cells = cs.toList.toArray:=by rw [hc]
    simp [Instr.build,hrun,run_underlying hu,hpl,hc']
    simp at hf
    rw [hf]
    simp
  · simp at hall
theorem buildAll_ok {ty:Nat} {places:Nat → Option (Nat × Nat)} {ov:Operand → AV T} (hpl : ∀ j p,plc P ty j = some p → places j = some p) :
    ∀ {l:List Tp} {i off:Nat} {ps:List (Nat × Operand)} {y:HL T.S l} {pre suf:List Value},buildAll P ty ov l i off ps = some y → (∀ x ∈ ps.map (·.2),(ov x).is a0 (a.eval x) k) → pre.length = off → suf.length = (T.h l).sz →
    ∃ cs:List Value,Instr.fill places (pre ++ suf).toArray (ps.map fun p=>(p.1,a.eval p.2)) = some (pre ++ cs).toArray∧Enc.rep k cs y
  | [], i, off, [], y, pre, suf, _, _, _, hs => by
    have hs:suf.length = 0:=hs
    obtain rfl:=List.length_eq_zero_iff.1 hs
    exact ⟨[],rfl,rfl⟩
  | [b], i, off, [(j, x)], y, pre, suf, h, g, hp, hs => by
    have hs:suf.length = (T.e b).sz:=hs
    simp only [buildAll] at h
    split at h
    · rename_i o s hpc
      cases hb:(Nat.beq j i && (Nat.beq o off && Nat.beq s (szT T b))) with
      | false=>rw [hb] at h; simp at h
      | true =>
        rw [hb] at h; simp only [cond_true] at h
        simp only [Bool.and_eq_true] at hb
        obtain rfl:=Nat.eq_of_beq_eq_true hb.1
        obtain rfl:=Nat.eq_of_beq_eq_true hb.2.1
        have hsz:=Nat.eq_of_beq_eq_true hb.2.2
        obtain ⟨cy,hcy,hry,hly⟩:=isV_cellsL (asT_is h (g x (by simp)))
        have hly' : cy.length = (T.e b).sz:=hly
        have hsz' : s = (T.e b).sz:=hsz
        have hfold:=foldl_set cy cy o 0 pre suf (by rw [hp]; omega) rfl (by omega)
        refine ⟨cy,?_,hry⟩
        simp only [List.map_cons,List.map_nil,Instr.fill,hpl _ _ hpc]
        rw [hcy, if_neg (by simp [hly', hsz', hp, hs])]
        rw [show suf.drop cy.length = [] from List.drop_eq_nil_of_le (by omega)] at hfold
        simp at hfold ⊢
        exact hfold
    · simp at h
  | b :: c :: l, i, off, (j, x) :: ps, y, pre, suf, h, g, hp, hs => by
    have hs:suf.length = (T.e b).sz + (T.h (c::l)).sz:=hs
    simp only [buildAll] at h
    split at h
    · rename_i o s hpc
      cases hb:(Nat.beq j i && (Nat.beq o off && Nat.beq s (szT T b))) with
      | false=>rw [hb] at h; simp at h
      | true =>
        rw [hb] at h; simp only [cond_true] at h
        simp only [Bool.and_eq_true] at hb
        obtain rfl:=Nat.eq_of_beq_eq_true hb.1
        obtain rfl:=Nat.eq_of_beq_eq_true hb.2.1
        have hsz:=Nat.eq_of_beq_eq_true hb.2.2
        split at h
        · rename_i z r hz hr
          obtain rfl:=Option.some.inj h
          obtain ⟨cy,hcy,hry,hly⟩:=isV_cellsL (asT_is hz (g x (by simp)))
          have hly' : cy.length = (T.e b).sz:=hly
          have hsz' : s = (T.e b).sz:=hsz
          have hfold:=foldl_set cy cy o 0 pre suf (by rw [hp]; omega) rfl (by omega)
          obtain ⟨cs,h1,h2⟩:=buildAll_ok (pre:=pre ++ cy) (suf:=suf.drop cy.length) hpl hr (fun x' hx'=>g x' (by simp at hx' ⊢; exact .inr hx')) (by rw [List.length_append,hp,hly']; rfl) (by rw [List.length_drop]; omega)
          refine ⟨cy ++ cs,?_,?_⟩
          · simp only [List.map_cons, Instr.fill, hpl _ _ hpc]
            rw [hcy, if_neg (by simp [hly', hsz', hp, hs] <;> omega)]
            simp at hfold h1 ⊢
            rw [hfold]
            exact h1
          · have hl2 := Enc.len h2
            exact ⟨by rw [List.length_append, hly', hl2], by show Enc.rep k ((cy ++ cs).take (T.e b).sz) z; rw [← hly', List.take_left]; exact hry, by show Enc.rep k ((cy ++ cs).drop (T.e b).sz) r; rw [← hly', List.drop_left]; exact h2⟩
        · simp at h
    · simp at h
  | [],_,_,_::_,_,_,_,h,_,_,_=>by simp [buildAll] at h
  | [_],_,_,[],_,_,_,h,_,_,_=>by simp [buildAll] at h
  | [_],_,_,_::_::_,_,_,_,h,_,_,_=>by simp [buildAll] at h
  | _::_::_,_,_,[],_,_,_,h,_,_,_=>by simp [buildAll] at h
theorem run_buildA {ty n:Nat} {ps:List (Nat × Operand)} {ov:Operand → AV T} {y:HL T.S (T.fs n)} (hz:zeroN P T ty n = true) (hall:allPl P ty = true) (hb:buildAll P ty ov (T.fs n) 0 0 ps = some y)
    (g : ∀ x ∈ ps.map (·.2),(ov x).is a0 (a.eval x) k) : ∃ v,(∀ w,(Instr.build ty (ps.map fun p=>(p.1,a.eval p.2)).toArray).run P w = .ok v w)∧@IsV (T.D (.st n)) (T.e (.st n)) (T.of n y) v k:=by
  unfold zeroN at hz
  split at hz
  · rename_i i hi
    split at hz
    · rename_i z hiz
      have hsz:=Nat.eq_of_beq_eq_true hz
      have hrun : ∀ w,(zeroValue ty).run P w = .ok (.agg z) w:=fun w=>by simp [zeroValue,typeInfo,hi,hiz]
      have hlen:z.toList.length = (T.h (T.fs n)).sz:=by
        have:z.size = (T.e (.st n)).sz:=hsz
        rw [sz_st] at this; simpa using this
      have fin : ∀ {cs:List Value},Enc.rep k cs y → @IsV (T.D (.st n)) (T.e (.st n)) (T.of n y) (.agg cs.toArray) k:=fun {cs} hr=>⟨cs,by rw [agg_st]; rfl,rep_st.2 (by rw [T.to_of]; exact hr)⟩
      unfold allPl at hall
      split at hall
      · rename_i fs hu
        unfold allFld at hall
        rw [hu] at hall
        dsimp only at hall
        rw [List.all_eq_true] at hall
        let pl:Field → Nat × Nat:=fun f=>(f.offset,((P.info? f.type).map (·.size)).getD 0)
        have hpl : ∀ w,(fs.mapM fun f=>Prod.mk f.offset <$> sizeOf f.type).run P w = .ok (fs.map pl) w:=fun w=>sem_mapMA fs fun f hf=>by
          have:=hall f hf
          cases hif:P.info? f.type with
          | none=>rw [hif] at this; simp at this
          | some i'=>simp [run_sizeOf (show (P.info? f.type).map (·.size) = some i'.size by rw [hif]; rfl),pl,hif]
        obtain ⟨cs,h1,h2⟩:=buildAll_ok (P:=P) (ty:=ty) (a0:=a0) (a:=a) (k:=k) (places:=fun j=>(fs.map pl)[j]?) (pre:=[]) (suf:=z.toList) (fun j p hp=>by
          unfold plc at hp
          rw [hu] at hp
          obtain ⟨off,sz⟩:=p
          obtain ⟨fs', d, i', hu', hd, hi', h1, h2⟩ := fldPl_ok hp
          rw [hu] at hu'
          obtain rfl:fs = fs':=by simpa using hu'
          simp [hd, pl, hi', h1, h2]) hb g rfl hlen
        refine ⟨.agg cs.toArray,fun w=>?_,fin h2⟩
        simp [Instr.build,hrun,run_underlying hu,hpl,Value.cells]
        simp at h1
        rw [h1]
        simp
      · rename_i m el hu
        cases hif:P.info? el with
        | none=>rw [hif] at hall; simp at hall
        | some i' =>
          have hs : ∀ w,(sizeOf el).run P w = .ok i'.size w:=fun w=>run_sizeOf (P:=P) (show (P.info? el).map (·.size) = some i'.size by rw [hif]; rfl)
          obtain ⟨cs,h1,h2⟩:=buildAll_ok (P:=P) (ty:=ty) (a0:=a0) (a:=a) (k:=k) (places:=fun j=>some (j * i'.size,i'.size)) (pre:=[]) (suf:=z.toList) (fun j p hp=>by
            unfold plc at hp
            rw [hu] at hp
            dsimp only at hp
            rw [hif] at hp
            exact hp) hb g rfl hlen
          refine ⟨.agg cs.toArray,fun w=>?_,fin h2⟩
          simp [Instr.build,hrun,run_underlying hu,hs,Value.cells]
          simp at h1
          rw [h1]
          simp
      · simp at hall
    · simp at hz
  · simp at hz
theorem okArrRef {ty m el n:Nat} {x y:Operand} {z:T.S n} {t:Tp} {xs:List (T.D t)} {i:Int} {r:T.D t} (ho:o.op = .indexAddr ty x y) (hu:P.underlying ty = some (.array m el)) (he:Ty P el (T.D t)) (hl:xs.length = m)
    (hxs:partsN (T.fs n) (T.to n z) = some ⟨t,xs⟩) (hx : @IsRef (T.D (.st n)) (T.e (.st n)) z (a.eval x) k) (hy:IsV i (a.eval y) k) (h:getI xs i = some r):Does P o a k (@IsRef (T.D t) (T.e t) r):=by
  obtain ⟨ad,e1,hs,cs,hrep,hc⟩:=hx
  have hat:At (T.to n z) ad k:=⟨cs,rep_st.1 hrep,hc⟩
  have hy:=isV_int.1 hy
  obtain ⟨h0,h1,h2,h3⟩:=getI_spec h
  have hz:xs[i.toNat] = r:=by
    rw [List.getElem?_eq_getElem h2] at h1; exact Option.some.inj h1
  refine does_pure (v:=.pointer (some (ad.add (i.toNat * (T.e t).sz)))) ?_ ⟨_,rfl,by rw [add_block]; exact hs,hz ▸ partsN_at hxs hat _ h2⟩
  simp only [execOp,ho,hy,e1]
  have hsz:(P.info? el).map (·.size) = some (T.e t).sz:=he.2
  simp [Instr.indexAt,asIntOf,run_underlying hu,run_sizeOf hsz,Instr.sureAddr,h0]
  omega
end
end Go.Gb


