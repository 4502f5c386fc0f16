/- Of the texts Vc2. -/
import Derived.Test.YtgjbcahpgkchfaaG04
set_option linter.unusedSimpArgs false
set_option linter.unusedVariables false
namespace Go.Proofs.Ytgjbcahpgkchfaa.Vc
open Go
def SV1.cells : SV1 → List C1
 | .one c => [c]
 | .agg l => l
def expose : List Nat → St → (St → VC) → VC
 | [], S, k => k S
 | m :: l, S, k =>
  match S.exp.lookup m, S.rowOf m with
  | some _, some _ => expose l S k
  | none, some _ => if S.ok then .all S.nv .p (.all (S.nv + 1) .n (expose l { S with nv := S.nv + 2, exp := (m, .var S.nv, .var (S.nv + 1)) :: S.exp } k)) else .no 20
  | _, none => .no 20
def C1.rowNames : C1 → List Nat
 | .row m _ => [m]
 | _ => []
def SV1.rowNames : SV1 → List Nat
 | .one c => c.rowNames
 | .agg l => l.flatMap C1.rowNames
def rowFX (S : St) (m : Nat) : Option FX :=
 match S.rowOf m, S.exp.lookup m with
 | some r, some e => some (.row r.e r.size e.1 r.n e.2 r.xs)
 | _, _ => none
def C1.unrow (m : Nat) (a c : X) : C1 → C1
 | .row k n => if k = m then .slc a n c else .row k n
 | .rowp k o => if k = m then .ptr (mkPadd a o) else .rowp k o
 | x => x
def SV1.map (f : C1 → C1) : SV1 → SV1
 | .one c => .one (f c)
 | .agg l => .agg (l.map f)
def SV.map (f : C1 → C1) : SV → SV
 | .s x => .s (x.map f)
 | .tup l => .tup (l.map (SV1.map f))
def retire (m : Nat) (S : St) : Option St :=
 match rowFX S m, S.exp.lookup m with
 | some F, some e => some { S with
   fr := S.fr.map (fun p => (p.1, p.2.map (C1.unrow m e.1 e.2)))
   blk := S.blk.map (fun q => (q.1, q.2.1, q.2.2.map (C1.unrow m e.1 e.2)))
   row := S.row.filter (fun r => r.m != m)
   exp := S.exp.filter (fun x => x.1 != m)
   facts := S.facts ++ [F] }
 | _, _ => none
def retires : List Nat → St → Option St
 | [], S => some S
 | m :: l, S => (retire m S).bind (retires l)
def dedup (l : List Nat) : List Nat := l.eraseDups
def callS (P : Program) (Γ : Cfg) (f d : Nat) (dst : Option Nat) (args : List SV1) (S : St) (k : St → VC) : VC :=
 match P.funcs[f]? with
 | none => .no 21
 | some fn =>
  match shsOf P fn.params, shsOf P fn.resultTypes with
  | some pin, some pout =>
   match Γ.con.lookup f with
   | none => .no 22
   | some gh =>
    if fn.body.isNone || fn.name == "runtime.NumGoroutine" then .no 22 else
    let sh := (Γ.shows.lookup d).getD []
    let ms := dedup (args.flatMap SV1.rowNames ++ sh)
    let ret := Γ.retire.contains d
    if ret && (!sh.isEmpty || ms.any Γ.lnm.contains) then .no 120 else
    expose ms S fun S1 =>
     match flats S1 args, (if ret then retires ms S1 else some S1), ms.mapM (rowFX S1) with
     | some (shs, us), some S2, some fx =>
      let fs := if ret then S2.facts else S2.facts ++ fx
      if shs = pin ∧ S2.ok = true ∧ us.all (·.upto S2.nv) = true ∧ fs.all (·.upto S2.nv) = true then
       exs (List.replicate gh .g) S2 fun S2' =>
        let us' := us ++ vars S2.nv gh
        .pre f us' fs
         (alls (lfsSrts (shsLfs pout)) S2' fun S3 =>
          let os := vars S2'.nv (lfsAr (shsLfs pout))
          let S4 := if ret || ms.isEmpty then { S3 with facts := S3.facts ++ [.fact f us' os] } else S3
          .post f us' os (match shsFresh S2'.nv pout with
           | [v] => k (S4.put dst (.s v))
           | vs => k (S4.put dst (.tup vs))))
      else .no 23
     | _, _, _ => .no 24
  | _, _ => .no 25
def takeL (S : St) : List (Nat × Nat) → Nat → List SV1 → Option (List SV1 × List (Nat × List C1))
 | [], _, args => some (args, [])
 | p :: L, j, args =>
  match args[p.1]? with
  | some (.one (.own m 0)) =>
   match S.block m with
   | some (t, cs) => if t = p.2 then (takeL S L (j + 1) (args.set p.1 (.one (.ptr (.var (S.nv + j)))))).map fun q => (q.1, (m, cs) :: q.2) else none
   | none => none
  | _ => none
def backL (S : St) : List (Nat × List C1) → List (List Lf) → Nat → St
 | q :: l, lf :: lls, n => backL { S with blk := S.blk.map fun b => if b.1 = q.1 then (b.1, b.2.1, freshs n lf) else b } l lls (n + lfsAr lf)
 | _, _, _ => S
def catX (fl : List (Option (List Lf × List X))) : List X := fl.flatMap fun x => match x with | some p => p.2 | none => []
def keepOk (Γ : Cfg) (S : St) : Bool := Γ.keepB.all fun q => (match S.block q.1 with | some (t, cs) => t == q.2.1 && cs.length == q.2.2 | none => false) && decide (S.get q.1 = some (.s (.one (.own q.1 0))))
def panN (Γ : Cfg) (S : St) (ms : List Nat) (f : Nat) (us : List X) (v : VC) : VC := if Γ.pans.contains f then (if Γ.np then .no 110 else if keepOk Γ S && Γ.keepB.all (fun q => !ms.contains q.1) then .pan f us v else .no 115) else v
def St.addRow (S : St) (r : RowS) : St := { S with row := r :: S.row }
def St.addBlk (S : St) (m t : Nat) (cs : List C1) : St := { S with blk := (m, t, cs) :: S.blk }
def St.setRow (S : St) (m : Nat) (n xs : X) : St := { S with row := S.row.map fun u => if u.m = m then { u with n := n, xs := xs } else u }
def St.setBlk (S : St) (m : Nat) (cs : List C1) : St := { S with blk := S.blk.map fun q => if q.1 = m then (m, q.2.1, cs) else q }
def dropRs (ks : List Nat) (S : St) : St := { S with fr := forget (·.any fun c => ks.any fun k => c.rows k) S.fr, row := S.row.filter (fun r => !ks.contains r.m), exp := S.exp.filter (fun e => !ks.contains e.1) }
def claims (P : Program) : List (Nat × Nat × Nat × Nat) → List X → St → Option St
 | [], _, S => some S
 | q :: l, x :: xs, S =>
  match S.block q.2.1, P.info? q.2.2.2, S.unrow q.1 with
  | some (_, cs), some i, some S1 =>
   match cs[q.2.2.1]? with
   | some (.slc a n c) => if (S.row.map (·.m)).contains q.1 = true then none else claims P l xs { S1.setBlk q.2.1 (cs.set q.2.2.1 (.row q.1 n)) with row := ⟨q.1, q.2.2.2, i.size, i.bytes, n, x⟩ :: S1.row, exp := (q.1, a, c) :: S1.exp }
   | _ => none
  | _, _, _ => none
 | _ :: _, [], _ => none
def lrowsOf (P : Program) (S : St) (L : List (Nat × Nat)) (ls : List (Nat × List C1)) : List (Nat × Nat × Nat) → Option (List (Nat × Nat × Nat × Nat) × List X)
 | [] => some ([], [])
 | q :: R =>
  match ((L.map (·.1)).zip ls).lookup q.1, lrowsOf P S L ls R with
  | some (m, cs), some (l, xs) =>
   match cs[q.2.1]? with
   | some (.row k n) => match S.rowOf k, P.info? q.2.2 with
    | some r, some i => if r.e = q.2.2 ∧ r.n = n ∧ r.size = i.size then some ((k, m, q.2.1, q.2.2) :: l, .un (.co .l) r.xs :: xs) else none
    | _, _ => none
   | _ => none
  | _, _ => none
def callL (P : Program) (Γ : Cfg) (f : Nat) (L : List (Nat × Nat)) (R : List (Nat × Nat × Nat)) (dst : Option Nat) (args : List SV1) (S0 : St) (k : St → VC) : VC :=
  match P.funcs[f]?, takeL S0 L 0 args with
  | some fn, some (_, ls0) =>
    match lrowsOf P S0 L ls0 R with
    | none => .no 122
    | some (cl, rx) =>
    expose (cl.map (·.1)) S0 fun S =>
    match shsOf P fn.params, shsOf P fn.resultTypes, lentsLfs P L, takeL S L 0 args with
    | some pin, some pout, some lls, some (args', ls) =>
      match Γ.con.lookup f with
      | none => .no 22
      | some gh =>
        if fn.body.isNone || fn.name == "runtime.NumGoroutine" then .no 22 else
        match flats S args' with
        | some (shs, us) =>
          let fl := ls.map fun q => flat S q.2
          let xs := rx ++ catX fl
          if shs = pin ∧ fl.map (Option.map (·.1)) = lls.map some ∧ (ls.map (·.1)).Nodup ∧ S.ok = true ∧ us.all (·.upto (S.nv + L.length)) = true ∧ xs.all (·.upto S.nv) = true ∧ (cl.map (·.1)).Nodup ∧ ls = ls0 ∧ (cl.map (·.1)).all ((Γ.rcells.map fun q => cname q.1 q.2.1).contains ·) = true then
            alls (List.replicate L.length .p) S fun S1 =>
            exs (List.replicate gh .g) S1 fun S2 =>
              let us' := us ++ (xs ++ vars S1.nv gh)
              panN Γ S (ls.map (·.1)) f us' <| .pre f us' S.facts
                (alls (lfsSrts (shsLfs pout) ++ (List.replicate R.length .l ++ lfsSrts lls.flatten)) S2 fun S3 =>
                  let os := vars S2.nv (lfsAr (shsLfs pout) + (R.length + lfsAr lls.flatten))
                  match claims P cl (vars (S2.nv + lfsAr (shsLfs pout)) R.length) (backL (dropRs (cl.map (·.1)) { S3 with facts := S3.facts ++ [.fact f us' os] }) ls lls (S2.nv + (lfsAr (shsLfs pout) + R.length))) with
                  | none => .no 123
                  | some S4 => .post f us' os (match shsFresh S2.nv pout with
                    | [v] => k (S4.put dst (.s v))
                    | vs => k (S4.put dst (.tup vs))))
          else .no 94
        | _ => .no 95
    | _, _, _, _ => .no 96
  | _, _ => .no 21
def listX : List X → X
 | [] => .lnil
 | [x] => .un .one x
 | x :: l => .bin .app (.un .one x) (listX l)
def setXs (a off : X) : Nat → List X → X
 | _, [] => a
 | j, x :: l => setXs (.tri .set a (mkAddN off (.nat j)) x) off (j + 1) l
def partsS (S : St) : List (Nat × Operand) → Option (List (List C1) × List X)
 | [] => some ([], [])
 | p :: l =>
  match S.opd p.2, partsS S l with
  | some (.s v), some (cs, xs) => (v.cells.mapM (C1.x S)).map fun ys => (v.cells :: cs, ys ++ xs)
  | _, _ => none
def partsC (S : St) : List (Nat × Operand) → Option (List (List C1))
 | [] => some []
 | p :: l =>
  match S.opd p.2, partsC S l with
  | some (.s v), some cs => some (v.cells :: cs)
  | _, _ => none
def zeroOk (i : TypeInfo) : Bool :=
 match i.zero with
 | some z => z.cells.size == i.size
 | none => false
def ones (x : X) (k : VC) : VC := if onesX x then k else .ones x k
def maxBytes : Int := 140737488355328
def fillS (P : Program) (fs : Array Field) (S : St) : List C1 → List (Nat × Operand) → Option (List C1)
 | cs, [] => some cs
 | cs, p :: l =>
  match fs[p.1]?, S.opd p.2 with
  | some f, some (.s v) =>
   match P.info? f.type with
   | some i => if v.cells.length = i.size ∧ f.offset + i.size ≤ cs.length ∧ v.cells.all C1.solid = true then fillS P fs S (splice cs f.offset v.cells) l else none
   | none => none
  | _, _ => none
def strArg (P : Program) (S : St) (t : Nat) (x : Operand) : Option X :=
 match P.underlying t, S.opd x with
 | some .string, some (.s (.one (.str q))) => some q
 | _, _ => none
def byteEl (i : TypeInfo) : Bool := i.size == 1 && i.bytes == 1 && match i.zero with | some (.int .u8 0) => true | _ => false
def newS (P : Program) (Γ : Cfg) (f t : Nat) (dst : Option Nat) (args : Array Operand) (S : St) (k : St → VC) : VC :=
 match P.funcs[f]? with
 | none => .no 141
 | some fn =>
  if fn.body.isNone || fn.name == "runtime.NumGoroutine" || decide (args.size ≠ 0) then .no 141 else
  match dst, (P.info? t).bind (·.zero) with
  | some d, some z =>
   match (match constS z with | some (.s (.agg l)) => some l | some (.s (.one c)) => some [c] | _ => none), S.dropBlk d with
   | some cs, some S1 => if Γ.lnm.contains d then .no 141 else k ((S1.addBlk d t cs).put (some d) (.s (.one (.own d 0))))
   | _, _ => .no 141
  | _, _ => .no 141
def freshOf : List (Nat × Nat) → Option Nat
 | [p] => if p.1 = 999999 then some p.2 else none
 | _ => none
def callF (P : Program) (Γ : Cfg) (f e : Nat) (dst : Option Nat) (args : List SV1) (S : St) (k : St → VC) : VC :=
 match P.funcs[f]?, dst with
 | some fn, some d =>
  match shsOf P fn.params, P.info? e, S.dropRow d, flats S args, Γ.con.lookup f with
  | some pin, some i, some S1, some (shs, us), some gh =>
   if fn.body.isNone || fn.name == "runtime.NumGoroutine" then .no 142 else
   if shs = pin ∧ S.ok = true ∧ us.all (·.upto S1.nv) = true then
    exs (List.replicate gh .g) S1 fun S2 =>
     .pre f (us ++ vars S1.nv gh) S1.facts (.all S2.nv .n (.all (S2.nv + 1) .l (.post f (us ++ vars S1.nv gh) [.var S2.nv, .var (S2.nv + 1)]
      (k (({ S2 with nv := S2.nv + 2 }.addRow ⟨d, e, i.size, i.bytes, .var S2.nv, .var (S2.nv + 1)⟩).put (some d) (.s (.one (.row d (.var S2.nv)))))))))
   else .no 143
  | _, _, _, _, _ => .no 144
 | _, _ => .no 145
def callA (P : Program) (Γ : Cfg) (f d : Nat) (dst : Option Nat) (args : List SV1) (S : St) (k : St → VC) : VC :=
 match Γ.lents.lookup f with
 | none => callS P Γ f d dst args S k
 | some L => match freshOf L with
  | some e => callF P Γ f e dst args S k
  | none => callL P Γ f L ((Γ.lrows.lookup f).getD []) dst args S k
def zeroX (i : TypeInfo) : Option X :=
 match i.zero with
 | some (.int k n) => some (.un (.vint k) (.int n))
 | some (.bool b) => some (.un .vbool (.bool b))
 | _ => none
def act (P : Program) (Γ : Cfg) (o : Oper) (S : St) (k : St → VC) : VC :=
  match o.op with
  | .assign (.const (.slice none 0 0)) =>
    match o.dst, Γ.rows.lookup (o.dst.getD 0) with
    | some d, some e =>
      match P.info? e, S.dropRow d with
      | some i, some S1 => if i.size = 0 ∨ zeroOk i = false then .no 26 else k ((S1.addRow ⟨d, e, i.size, i.bytes, .nat 0, .lnil⟩).put (some d) (.s (.one (.row d (.nat 0)))))
      | _, _ => .no 26
    | _, _ => .no 26
  | .assign x =>
    match S.opd x with
    | some (.s (.one (.row m n))) => expose [m] S fun S1 => (match S1.exp.lookup m with
      | some e => k (S1.put o.dst (.s (.one (.slc e.1 n e.2))))
      | none => .no 140)
    | _ => .no 140
  | .alloc t =>
    match o.dst, (P.info? t).bind (·.zero) with
    | some d, some z =>
      match (match constS z with | some (.s (.agg l)) => some l | some (.s (.one c)) => some [c] | _ => none), S.dropBlk d with
      | some cs, some S1 => if Γ.lnm.contains d then .no 27 else k ((S1.addBlk d t cs).put (some d) (.s (.one (.own d 0))))
      | _, _ => .no 27
    | _, _ => .no 27
  | .box t x =>
    match o.dst, S.opd x with
    | some d, some (.s v) =>
      match S.dropBlk d with
      | some S1 => if Γ.lnm.contains d then .no 28 else if v.cells.all (fun c => c.solid && !c.names d) = true then k ((S1.addBlk d t v.cells).put (some d) (.s (.one (.own d 0)))) else .no 28
      | none => .no 28
    | _, _ => .no 28
  | .store t x y =>
    match S.opd x, S.opd y, P.info? t with
    | some (.s (.one (.own m off))), some (.s v), some i =>
      match S.block m with
      | some (_, cs) =>
        if v.cells.length = i.size ∧ off + i.size ≤ cs.length ∧ v.cells.all C1.solid = true then k ((S.setBlk m (splice cs off v.cells)).kill o.dst)
        else .no 29
      | none => .no 29
    | some (.s (.one (.rowp m off))), some (.s v), some i =>
      match S.rowOf m with
      | some r =>
        match v.cells.mapM (C1.x S) with
        | some xs =>
          if v.cells.length = i.size ∧ 0 < i.size ∧ v.cells.all C1.solid = true then
            .need (mkLt (mkCast (mkAddN off (.nat (i.size - 1)))) (.un .cast (.un .len r.xs)))
              (k ((S.setRow m r.n (setXs r.xs off 0 xs)).kill o.dst))
          else .no 29
        | none => .no 29
      | none => .no 29
    | _, _, _ => .no 29
  | .build t parts =>
    match P.underlying t, (P.info? t).bind (·.zero) with
    | some (.struct fs), some z =>
      match (match constS z with | some (.s (.agg l)) => some l | some (.s (.one c)) => some [c] | _ => none) with
      | some cs =>
        match (if fs.toList.all (fun f => (P.info? f.type).isSome) = true then fillS P fs S cs parts.toList else none) with
        | some cs' => k (S.put o.dst (.s (.agg cs')))
        | none => .no 97
      | none => .no 97
    | _, _ => .no 97
  | .buildSlice t n parts =>
    match o.dst, P.underlying t with
    | some d, some (.slice e) =>
      match P.info? e, S.dropRow d, partsS S parts.toList with
      | some i, some S1, some (cs, xs) =>
        if n * i.size ≤ 4096 ∧ 0 < n * i.size ∧ zeroOk i = true ∧ (parts.toList.map (·.1)) = List.range n ∧ cs.all (fun l => l.length == i.size && l.all C1.solid) = true then
          k ((S1.addRow ⟨d, e, i.size, i.bytes, .nat n, listX xs⟩).put (some d) (.s (.one (.row d (.nat n)))))
        else .no 30
      | some i, _, none =>
        match S.dropBlk d, partsC S parts.toList with
        | some S1, some cs =>
          if n * i.size ≤ 4096 ∧ 0 < n * i.size ∧ zeroOk i = true ∧ (parts.toList.map (·.1)) = List.range n ∧ cs.all (fun l => l.length == i.size && l.all C1.solid && l.all fun c => !c.names d) = true ∧ Γ.lnm.contains d = false then
            k ((S1.addBlk d e cs.flatten).put (some d) (.s (.one (.bslc d n))))
          else .no 30
        | _, _ => .no 30
      | _, _, _ => .no 30
    | _, _ => .no 30
  | .makeSlice t x y =>
    match o.dst, P.underlying t, S.opd x with
    | some d, some (.slice e), some (.s (.one (.int .i64 q))) =>
      match P.info? e, S.dropRow d with
      | some i, some S1 =>
        match zeroX i with
        | some z =>
          if S.opd y = S.opd x ∧ i.size = 1 then
            needs S1 [mkLe (.int 0) q, mkLe q (.int 9223372036854775807), mkLe (mkCast (mkMulN i.bytes (mkNat q))) (.int maxBytes)]
              (fun S1 => k ((S1.addRow ⟨d, e, i.size, i.bytes, mkNat q, .bin .rep (mkNat q) z⟩).put (some d) (.s (.one (.row d (mkNat q))))))
          else .no 146
        | none => .no 146
      | _, _ => .no 146
    | _, _, _ => .no 146
  | .slice t x lo hi none =>
    match P.underlying t, S.opd x, lo, hi.bind S.opd with
    | some (.slice e), some (.s (.one (.row m n))), none, some (.s (.one (.int _ q))) =>
      match S.rowOf m with
      | some r =>
        if r.n = n ∧ (P.info? e).isSome = true then
          needs S [mkLe (.int 0) q, mkLe q (mkCast n)] (fun S => k ((S.setRow m (mkNat q) (.bin .take r.xs (mkMulN r.size (mkNat q)))).put o.dst (.s (.one (.row m (mkNat q))))))
        else .no 31
      | none => .no 31
    | _, _, _, _ => .no 31
  | .call { callee := .builtin .append, args, argTypes } =>
    match o.dst, args.toList, argTypes.toList with
    | some d, [x0, x1], [t, t'] =>
      match S.opd x0, P.underlying t with
      | some (.s (.one (.row m n))), some (.slice e) =>
        match S.rowOf m, S.unrow m, P.info? e with
        | some r, some S1, some i =>
          match strArg P S t' x1 with
          | some q =>
            if r.n = n ∧ r.e = e ∧ r.size = 1 ∧ r.bytes = 1 ∧ byteEl i = true then
              needs S1 [mkLe (mkCast (mkAddN n (.un .size q))) (.int 9223372036854775807), mkLe (mkCast (mkMulN r.bytes (mkAddN n (.un .size q)))) (.int maxBytes)]
                (fun S1 => k ((S1.setRow m (mkAddN n (.un .size q)) (mkApp r.xs (.un .sl q))).put (some d) (.s (.one (.row m (mkAddN n (.un .size q)))))))
            else .no 32
          | none =>
          if r.n = n ∧ r.e = e ∧ i.size = r.size ∧ i.bytes = r.bytes ∧ zeroOk i = true ∧ 0 < i.size ∧ t = t' then
            match S.opd x1 with
            | some (.s (.one (.row m2 n2))) =>
              match S.rowOf m2 with
              | some r2 =>
                if r2.n = n2 ∧ m ≠ m2 ∧ r2.size = r.size then
                  ones r2.xs (needs S1 [mkLe (mkCast (mkAddN n n2)) (.int 9223372036854775807), mkLe (mkCast (mkMulN r.bytes (mkAddN n n2))) (.int maxBytes)]
                    (fun S1 => k ((S1.setRow m (mkAddN n n2) (mkApp r.xs r2.xs)).put (some d) (.s (.one (.row m (mkAddN n n2)))))))
                else .no 32
              | none => .no 32
            | some (.s (.one (.slc b n2 c))) =>
              if S.ok then
                .ex S.nv .l (.reads S.facts r.size b n2 (.var S.nv) (.ones (.var S.nv) (needs { S1 with nv := S.nv + 1 } [mkLe (mkCast (mkAddN n n2)) (.int 9223372036854775807), mkLe (mkCast (mkMulN r.bytes (mkAddN n n2))) (.int maxBytes)]
                    (fun S1 => k ((S1.setRow m (mkAddN n n2) (mkApp r.xs (.var S.nv))).put (some d) (.s (.one (.row m (mkAddN n n2)))))))))
              else .no 32
            | _ => .no 32
          else .no 32
        | _, _, _ => .no 32
      | _, _ => .no 32
    | _, _, _ => .no 32
  | .convert s t x =>
    match P.underlying s, P.underlying t, S.opd x with
    | some .string, some (.slice e), some (.s (.one (.str q))) =>
      match P.underlying e with
      | some (.int .u8) =>
        if S.ok && q.upto S.nv then .all S.nv .p (.all (S.nv + 1) .n (k ({ S with nv := S.nv + 2, facts := S.facts ++ [FX.bytes (.var S.nv) q], known := X.un .not (.un .isnil (.var S.nv)) :: S.known }.put o.dst (.s (.one (.slc (.var S.nv) (.un .size q) (.var (S.nv + 1))))))))
        else .no 98
      | _ => .no 98
    | _, _, _ => .no 98
  | .panic x =>
    if Γ.np then .no 111 else if !keepOk Γ S then .no 115 else match S.opd x with
    | some (.s (.one (.val (.un (.viface t) y)))) => .panv (.un (.viface t) y)
    | _ => .no 112
  | .call { callee := .value (.tmp t), args, argTypes := _ } =>
    match args.toList.mapM (fun x => (S.opd x).bind fun v => match v with | .s v => some v | _ => none), S.get t, Γ.fns.lookup (o.dst.getD 0) with
    | some vs, some (.s (.one (.val v))), some f =>
      .isfn v f (callA P Γ f (o.dst.getD 0) o.dst vs S k)
    | some vs, some (.s (.one (.val (.fn f)))), none => callA P Γ f (o.dst.getD 0) o.dst vs S k
    | _, _, _ => .no 114
  | .call { callee := .value (.func f), args, argTypes := _ } =>
    match Γ.news.lookup f with
    | some t => newS P Γ f t o.dst args S k
    | none =>
    match args.toList.mapM (fun x => (S.opd x).bind fun v => match v with | .s v => some v | _ => none) with
    | some vs => callA P Γ f (o.dst.getD 0) o.dst vs S k
    | none => .no 33
  | _ => .no 34
def isAct (P : Program) (Γ : Cfg) (o : Oper) (S : St) : Bool :=
 match o.op with
 | .assign (.const (.slice none 0 0)) => (Γ.rows.lookup (o.dst.getD 0)).isSome
 | .assign x => match S.opd x with | some (.s (.one (.row _ _))) => Γ.views.contains (o.dst.getD 0) | _ => false
 | .slice _ x _ _ none => match S.opd x with | some (.s (.one (.row _ _))) => true | _ => false
 | .convert _ t _ => match P.underlying t with | some (.slice _) => true | _ => false
 | o => !isQuiet o
def adopt1 (P : Program) (q : Nat × Nat × Nat) (S : St) : St :=
 match S.block q.1, P.info? q.2.2, S.dropRow (cname q.1 q.2.1) with
 | some (_, cs), some i, some S1 =>
  if cs[q.2.1]? = some (.slc .pnil (.nat 0) (.nat 0)) ∧ ¬ i.size = 0 ∧ zeroOk i = true then (S1.addRow ⟨cname q.1 q.2.1, q.2.2, i.size, i.bytes, .nat 0, .lnil⟩).setBlk q.1 (cs.set q.2.1 (.row (cname q.1 q.2.1) (.nat 0)))
  else S
 | _, _, _ => S
def adopts (P : Program) : List (Nat × Nat × Nat) → St → St
 | [], S => S
 | q :: l, S => adopts P l (adopt1 P q S)
def moved (o : Oper) (S : St) : Option Nat :=
 match o.op with
 | .call { callee := .builtin .append, args, .. } =>
  match args.toList with
  | x :: _ => match S.opd x with | some (.s (.one (.row m _))) => if S.blk.any (fun q => q.2.2.any (·.rows m)) then some m else none | _ => none
  | _ => none
 | _ => none
def unrowB (m : Nat) (S : St) : St :=
 match S.exp.lookup m with
 | some e => { S with blk := S.blk.map fun q => (q.1, q.2.1, q.2.2.map (C1.unrow m e.1 e.2)) }
 | none => S
def prep (o : Oper) (S : St) (k : St → VC) : VC :=
 match moved o S with
 | some m => expose [m] S fun S1 => k (unrowB m S1)
 | none => k S
def actX (P : Program) (Γ : Cfg) (o : Oper) (S : St) (k : St → VC) : VC :=
 prep o S fun S1 => act P Γ o S1 (if Γ.rcells.isEmpty then k else fun S2 => k (adopts P Γ.rcells S2))
def step (P : Program) (Γ : Cfg) (o : Oper) (S : St) (k : St → VC) : VC :=
 if isAct P Γ o S then actX P Γ o S k else quiet P Γ S.facts (fun _ => true) o S fun v S' => k (S'.put o.dst v)
def undefS : SV := .tup []
def stepG (P : Program) (Γ : Cfg) (ops : Array Oper) (o : Oper) (S : St) (k : St → VC) : VC :=
  match o.guard with
  | none => step P Γ o S k
  | some (j, want) =>
    match (ops[j]?).bind (·.dst) with
    | none => .no 40
    | some d =>
      match S.get d with
      | some (.s (.one (.bool (.bool t)))) => if t = want then step P Γ o S k else k (S.put o.dst undefS)
      | some (.s (.one (.bool q))) =>
        .and (.imp q (let S1 := (S.know q).put (some d) (.s (.one (.bool (.bool true)))); if want then step P Γ o S1 k else k (S1.put o.dst undefS)))
             (.imp (X.not q) (let S1 := (S.know (X.not q)).put (some d) (.s (.one (.bool (.bool false)))); if want then k (S1.put o.dst undefS) else step P Γ o S1 k))
      | some (.tup []) => k (S.put o.dst undefS)
      | _ => .no 41
def runOps (P : Program) (Γ : Cfg) (ops : Array Oper) : List Nat → St → (St → VC) → VC
 | [], S, k => k S
 | i :: l, S, k =>
  match ops[i]? with
  | none => .no 42
  | some o => stepG P Γ ops o S fun S' => runOps P Γ ops l S' k
def pickAt (ops : Array Oper) (g : Nat) : List Nat → Option (List Nat × Nat × List Nat)
 | [] => none
 | i :: l =>
  match ops[i]? with
  | some o => match o.op, o.dst with
   | .pick (.tmp t) _ _, some p => if t = g then some ([i], p, l) else (pickAt ops g l).map fun r => (i :: r.1, r.2)
   | _, _ => (pickAt ops g l).map fun r => (i :: r.1, r.2)
  | none => none
def endSt : VC → Option St
 | .st S => some S
 | _ => none
def iteX (q : X) : X → X → X
 | .bool true, y => .bin .or q y
 | .bool false, y => .bin .and (X.not q) y
 | x, .bool true => .bin .or (X.not q) x
 | x, .bool false => .bin .and q x
 | x, y => .tri .ite q x y
def St.like (S T : St) (q : X) : Bool := T.nt == S.nt && T.blk == S.blk && T.row == S.row && T.facts == S.facts && T.exp == S.exp && T.nv == S.nv && S.known.all (T.known.contains ·) && T.known.contains q && T.ok
def mergeS (S T1 T2 : St) (p : Nat) (q : X) : Option St :=
 match T1.get p, T2.get p with
 | some (.s (.one (.bool x))), some (.s (.one (.bool y))) =>
  if S.like T1 q && S.like T2 (X.not q) then
   some { S with fr := (p, .s (.one (.bool (iteX q x y)))) :: T1.fr.filter fun e => e.1 != p && T1.fr.lookup e.1 == some e.2 && T2.fr.lookup e.1 == some e.2 }
  else none
 | _, _ => none
def openG (ops : Array Oper) (S : St) (i : Nat) : Option (Nat × X) :=
 match (ops[i]?).bind (·.guard) with
 | none => none
 | some (j, _) => match (ops[j]?).bind (·.dst) with
  | none => none
  | some g => match S.get g with
   | some (.s (.one (.bool (.bool _)))) => none
   | some (.s (.one (.bool q))) => some (g, q)
   | _ => none
def isEnd (T : St) : St → VC := fun S => if S = T then .top else .no 0
def choice (run : List Nat → St → (St → VC) → VC) (ops : Array Oper) (S : St) (i : Nat) (l : List Nat) : Option (St × List Nat) :=
 match openG ops S i with
 | none => none
 | some (g, q) =>
  match pickAt ops g (i :: l) with
  | none => none
  | some (l0, p, l') =>
   match endSt (run l0 ((S.know q).put (some g) (.s (.one (.bool (.bool true))))) .st), endSt (run l0 ((S.know (X.not q)).put (some g) (.s (.one (.bool (.bool false))))) .st) with
   | some T1, some T2 =>
    match mergeS S T1 T2 p q with
    | some M => if run l0 ((S.know q).put (some g) (.s (.one (.bool (.bool true))))) (isEnd T1) = .top ∧ run l0 ((S.know (X.not q)).put (some g) (.s (.one (.bool (.bool false))))) (isEnd T2) = .top then some (M, l') else none
    | none => none
   | _, _ => none
def runOpsM (P : Program) (Γ : Cfg) (ops : Array Oper) : Nat → List Nat → St → (St → VC) → VC
 | 0, l, S, k => runOps P Γ ops l S k
 | _ + 1, [], S, k => k S
 | f + 1, i :: l, S, k =>
  match choice (runOpsM P Γ ops f) ops S i l with
  | some (M, l') => runOpsM P Γ ops f l' M k
  | none =>
   match ops[i]? with
   | none => .no 42
   | some o => stepG P Γ ops o S fun S' => runOpsM P Γ ops f l S' k
def chase (ops : Array Oper) (S : St) : Nat → Operand → Option Nat
 | 0, _ => none
 | n + 1, .tmp t =>
  match ops.toList.find? (fun o => o.dst == some t) with
  | some o => match o.op with
   | .fieldAddr _ x _ | .indexAddr _ x _ | .nilCheck x | .move x | .slice _ x _ _ _ => chase ops S n x
   | _ => none
  | none => match S.get t with
   | some (.s (.one (.own m _))) | some (.s (.one (.row m _))) | some (.s (.one (.rowp m _))) => some m
   | _ => none
 | _, _ => none
def targets (ops : Array Oper) (S : St) : List Nat :=
 ops.toList.filterMap fun o => match o.op with
  | .store _ x _ => chase ops S 20 x
  | .slice _ x _ _ _ => chase ops S 20 x
  | .call { callee := .builtin .append, args, .. } => (args[0]?).bind (chase ops S 20)
  | .call { callee := .value _, args, .. } => (args[0]?).bind (chase ops S 20)
  | _ => none
def C1.mentions : C1 → List Nat
 | .own m _ | .row m _ | .rowp m _ | .bslc m _ => [m]
 | _ => []
def staticNames (ops : Array Oper) (S : St) : List Nat :=
 let n0 := (S.blk.map (·.1) ++ S.row.map (·.m)).filter fun m => !(targets ops S).contains m
 let shut (l : List Nat) : Bool := S.blk.all fun q => !l.contains q.1 || q.2.2.all fun c => c.mentions.all (l.contains ·)
 if shut n0 then n0 else n0.filter fun m => S.blk.all fun q => q.1 != m || q.2.2.all fun c => c.mentions.isEmpty
def shutB (l : List Nat) (S : St) : Bool := S.blk.all fun q => !l.contains q.1 || q.2.2.all fun c => c.mentions.all (l.contains ·)
def staticG (Γ : Cfg) (ops : Array Oper) (S : St) : List Nat :=
 let rc := Γ.rcells.map fun q => cname q.1 q.2.1
 let n1 := (staticNames ops S).filter fun m => !rc.contains m
 n1.filter fun m => S.blk.all fun q => q.1 != m || q.2.2.all fun c => c.mentions.all (!rc.contains ·)
def touch (o : Oper) (S : St) : List Nat :=
 o.dst.toList ++ match o.op with
  | .call { callee := .builtin .append, args, .. } =>
   match args.toList with
   | x :: _ => match S.opd x with | some (.s (.one (.row m _))) => [m] | _ => []
   | _ => []
  | _ => []
def static (names : List Nat) (S T : St) : Bool :=
 names.all fun m => S.blk.lookup m == T.blk.lookup m && S.row.find? (·.m == m) == T.row.find? (·.m == m)
def wantedS (ops : Array Oper) (o : Oper) (S : St) : Bool :=
 match o.guard with
 | none => true
 | some (j, want) => match ((ops[j]?).bind (·.dst)).bind S.get with
  | some (.s (.one (.bool (.bool t)))) => t == want
  | _ => false
def takes (P : Program) (Γ : Cfg) (ops : Array Oper) (names : List Nat) (S0 : St) (listed : Array Bool) (S : St) (i : Nat) : Bool :=
  match ops[i]? with
  | none => false
  | some o => isQuiet o.op && !isAct P Γ o S && wantedS ops o S && Region.free .any ops listed i &&
    (match o.op with
     | .load _ x => match S.opd x with
       | some (.s (.one (.own m _))) => names.contains m
       | some (.s (.one (.rowp m _))) => names.contains m
       | some (.s (.one (.ptr p))) => p.upto S0.nv
       | _ => false
     | .indexAddr _ x _ => match S.opd x with
       | some (.s (.one (.row m _))) => names.contains m
       | _ => true
     | .convert _ _ x => match S.opd x with
       | some (.s (.one (.row m _))) => names.contains m
       | some (.s (.one (.slc p _ _))) => p.upto S0.nv
       | _ => true
     | _ => true)
def skipS (ops : Array Oper) (o : Oper) (S : St) : Bool :=
 match o.guard with
 | none => false
 | some (j, want) => match ((ops[j]?).bind (·.dst)).bind S.get with
  | some (.s (.one (.bool (.bool t)))) => t != want
  | some (.tup []) => true
  | _ => false
def pend (ops : Array Oper) (S : St) (i : Nat) : Option (Nat × X) :=
 match (ops[i]?).bind (·.guard) with
 | none => none
 | some (j, _) => match (ops[j]?).bind (·.dst) with
  | none => none
  | some d => match S.get d with
   | some (.s (.one (.bool (.bool _)))) => none
   | some (.s (.one (.bool q))) => some (d, q)
   | _ => none
def touchG (Γ : Cfg) (o : Oper) (S : St) : List Nat := touch o S ++ Γ.rcells.map fun q => cname q.1 q.2.1
def okAfter (Γ : Cfg) (ops : Array Oper) (names : List Nat) (S0 S S' : St) (o : Oper) : Bool := static names S0 S' && S0.facts.all (fun F => S'.facts.contains F) && (touchG Γ o S).all (fun m => !names.contains m) && Nat.ble S0.nv S'.nv
def runAny (P : Program) (Γ : Cfg) (ops : Array Oper) (names : List Nat) (S0 : St) : Nat → Nat → Array Bool → St → (St → VC) → VC
  | 0, _, _, _, _ => .no 50
  | g + 1, n, listed, S, k =>
    match Region.ready .any ops listed, n with
    | [], _ => k S
    | _ :: _, 0 => .no 51
    | i0 :: rs, n + 1 =>
      match (i0 :: rs).findSome? (pend ops S) with
      | some (d, q) =>
        .and (.imp q (runAny P Γ ops names S0 g (n + 1) listed ((S.know q).put (some d) (.s (.one (.bool (.bool true))))) k))
             (.imp (X.not q) (runAny P Γ ops names S0 g (n + 1) listed ((S.know (X.not q)).put (some d) (.s (.one (.bool (.bool false))))) k))
      | none =>
        match (i0 :: rs).find? (fun i => match ops[i]? with | some o => skipS ops o S && Region.free .any ops listed i | none => false) with
        | some i =>
          match ops[i]? with
          | some o => runAny P Γ ops names S0 g n (listed.setIfInBounds i true) (S.put o.dst undefS) k
          | none => .no 51
        | none =>
          match (i0 :: rs).find? (takes P Γ ops names S0 listed S) with
          | some i =>
            match ops[i]? with
            | some o => quiet P Γ S0.facts (names.contains ·) o S fun v S' => if Nat.ble S0.nv S'.nv then runAny P Γ ops names S0 g n (listed.setIfInBounds i true) (S'.put o.dst v) k else .no 54
            | none => .no 51
          | none =>
            rs.foldl (fun acc i => VC.both acc
              (match ops[i]? with
               | some o => stepG P Γ ops o S fun S' => if okAfter Γ ops names S0 S S' o then runAny P Γ ops names S0 g n (listed.setIfInBounds i true) S' k else .no 52
               | none => .no 53))
              (match ops[i0]? with
               | some o => stepG P Γ ops o S fun S' => if okAfter Γ ops names S0 S S' o then runAny P Γ ops names S0 g n (listed.setIfInBounds i0 true) S' k else .no 52
               | none => .no 53)
inductive Ex | normal | exit (id : Nat) | ret
 deriving DecidableEq
def Code.mods : Code → List Nat
 | .region _ ops _ => ops.toList.filterMap (·.dst)
 | .seq a b => mods a ++ mods b
 | .cond _ a b => mods a ++ mods b
 | .block _ c | .loop c | .scope c => mods c
 | .rangeFunc _ ps a b => ps.toList ++ mods a ++ mods b
 | _ => []
def Code.first : Code → Option Nat
 | .region i _ _ => some i
 | .seq a b => (first a).orElse fun _ => first b
 | .cond _ a b => (first a).orElse fun _ => first b
 | .block _ c | .loop c | .scope c => first c
 | _ => none
def C1.havoc (rs : List RowS) (n : Nat) : C1 → Option (C1 × List Srt)
 | .int k _ => some (.int k (.var n), [.i])
 | .bool _ => some (.bool (.var n), [.b])
 | .str _ => some (.str (.var n), [.s])
 | .ptr _ => some (.ptr (.var n), [.p])
 | .slc _ _ _ => some (.slc (.var n) (.var (n + 1)) (.var (n + 2)), [.p, .n, .n])
 | .val _ => some (.val (.var n), [.v])
 | .row m _ => (rs.find? (·.m == m)).map fun r => (.row m r.n, [])
 | _ => none
def havocL (rs : List RowS) : Nat → List C1 → Option (List C1 × List Srt)
 | _, [] => some ([], [])
 | n, c :: l =>
  match c.havoc rs n with
  | some (c', s) => match havocL rs (n + s.length) l with
   | some (l', s') => some (c' :: l', s ++ s')
   | none => none
  | none => none
def SV1.havoc (rs : List RowS) (n : Nat) : SV1 → Option (SV1 × List Srt)
 | .one c => (c.havoc rs n).map fun p => (.one p.1, p.2)
 | .agg l => (havocL rs n l).map fun p => (.agg p.1, p.2)
def havocS (rs : List RowS) (S : St) : Nat → List Nat → Option (List (Nat × SV) × List Srt)
 | _, [] => some ([], [])
 | n, t :: l =>
  match S.get t with
  | some (.s v) => match v.havoc rs n with
   | some (v', s) => (havocS rs S (n + s.length) l).map fun p => ((t, .s v') :: p.1, s ++ p.2)
   | none => none
  | _ => none
def havocB (rs : List RowS) (S : St) : Nat → List Nat → Option (List (Nat × Nat × List C1) × List Srt)
 | _, [] => some ([], [])
 | n, m :: l =>
  match S.block m with
  | some (t, cs) => match havocL rs n cs with
   | some (cs', s) => (havocB rs S (n + s.length) l).map fun p => ((m, t, cs') :: p.1, s ++ p.2)
   | none => none
  | none => none
def havocR (S : St) : Nat → List Nat → Option (List RowS × List Srt)
 | _, [] => some ([], [])
 | n, m :: l =>
  match S.rowOf m with
  | some r => (havocR S (n + 2) l).map fun p => ({ r with n := .var n, xs := .var (n + 1) } :: p.1, .n :: .l :: p.2)
  | none => none
def C1.terms : C1 → List X
 | .int _ x => [.un (.co .i) x]
 | .bool x => [.un (.co .b) x]
 | .str x => [.un (.co .s) x]
 | .ptr x => [.un (.co .p) x]
 | .val x => [.un (.co .v) x]
 | .slc a n c => [.un (.co .p) a, .un (.co .n) n, .un (.co .n) c]
 | _ => []
def SV1.terms : SV1 → List X
 | .one c => c.terms
 | .agg l => l.flatMap C1.terms
def C1.like (T : St) : C1 → C1 → Bool
 | .int k _, .int j _ => k == j
 | .bool _, .bool _ | .str _, .str _ | .ptr _, .ptr _ | .val _, .val _ | .slc _ _ _, .slc _ _ _ => true
 | .row m _, .row j n => m == j && (match T.rowOf j with | some r => r.n == n | none => false)
 | _, _ => false
def likes (T : St) : List C1 → List C1 → Bool
 | [], [] => true
 | a :: l, b :: m => a.like T b && likes T l m
 | _, _ => false
def SV1.like (T : St) : SV1 → SV1 → Bool
 | .one a, .one b => a.like T b
 | .agg l, .agg m => likes T l m
 | _, _ => false
structure Head where
 S : St
 fr : List (Nat × SV)
 blk : List (Nat × Nat × List C1)
 row : List RowS
 srts : List Srt
def headOf (A : LoopA) (body : Code) (S : St) : Option Head :=
 match havocR S S.nv A.rows with
 | none => none
 | some (rs, s0) =>
  let all := rs ++ S.row.filter (fun r => !A.rows.contains r.m)
  match havocS all S (S.nv + s0.length) A.slots with
  | none => none
  | some (fs, s1) =>
   match havocB all S (S.nv + s0.length + s1.length) A.blks with
   | none => none
   | some (bs, s2) =>
    some { S := { S with fr := S.fr.filter (fun p => !(Code.mods body).contains p.1 && !A.slots.contains p.1 && !A.kill.contains p.1), blk := S.blk.filter (fun q => !A.blks.contains q.1), row := S.row.filter (fun r => !A.rows.contains r.m), exp := S.exp.filter (fun e => !A.rows.contains e.1) }, fr := fs, blk := bs, row := rs, srts := s0 ++ s1 ++ s2 }
def fitR (T : St) (r : RowS) : Option (List X) := match T.rowOf r.m with | some q => if q.e = r.e ∧ q.size = r.size ∧ q.bytes = r.bytes then some [.un (.co .n) q.n, .un (.co .l) q.xs] else none | none => none
def fitF (T : St) (p : Nat × SV) : Option (List X) := match p.2, T.get p.1 with | .s a, some (.s b) => if a.like T b then some b.terms else none | _, _ => none
def fitB (T : St) (q : Nat × Nat × List C1) : Option (List X) := match T.blk.lookup q.1 with | some (t, cs) => if t = q.2.1 ∧ likes T q.2.2 cs = true then some (cs.flatMap C1.terms) else none | none => none
def fits (H : Head) (T : St) : Option (List X) :=
 let okS := T.nt == H.S.nt && H.S.fr.all (fun p => T.get p.1 == some p.2) && H.S.blk.all (fun q => T.blk.lookup q.1 == some q.2) && H.S.row.all (fun r => T.rowOf r.m == some r) && H.S.facts.all (fun F => T.facts.contains F) && H.S.exp.all (fun e => T.exp.lookup e.1 == some e.2)
 let rs := H.row.mapM (fitR T)
 let fs := H.fr.mapM (fitF T)
 let bs := H.blk.mapM (fitB T)
 match okS, rs, fs, bs with
 | true, some a, some b, some c => some (a.flatten ++ b.flatten ++ c.flatten)
 | _, _, _, _ => none
def joinKey : Code → Option Nat
 | .region _ _ _ => none
 | c => Code.first c
def Head.at_ (H : Head) (nv r : Nat) (hv : List X) : St := { H.S with nv := nv, fr := H.fr ++ H.S.fr, blk := H.blk ++ H.S.blk, row := H.row ++ H.S.row, facts := H.S.facts ++ [.inv r hv] }
def rounds (f : St → (Ex → St → VC) → VC) : Nat → St → (Ex → St → VC) → VC
 | 0, _, _ => .no 116
 | n + 1, S, k => f S fun e T => match e with | .normal => rounds f n T k | e => k e T
def exec (P : Program) (Γ : Cfg) : Code → St → (Ex → St → VC) → VC
 | .skip, S, k => k .normal S
 | .label _, S, k => k .normal S
 | .region r ops draw, S, k =>
  needs S ((Γ.early.lookup r).getD []) fun S =>
  if draw then
   if Region.noSelect ops && S.ok && shutB (staticG Γ ops S) S then runAny P { Γ with np := true } ops (staticG Γ ops S) S (3 * ops.size + 3) ops.size (Array.replicate ops.size false) S (k .normal) else .no 60
  else runOpsM P Γ ops (ops.size + 1) (List.range ops.size) S (k .normal)
 | .seq a b, S, k =>
  match (joinKey a).bind fun r => (Γ.joins.lookup r).map fun A => (r + 1000, A) with
  | none => exec P Γ a S fun e S' => match e with | .normal => exec P Γ b S' k | e => k e S'
  | some (r, A) =>
   match headOf A a S with
   | none => .no 90
   | some H =>
    let hv := vars S.nv H.srts.length ++ A.extra
    if S.ok ∧ A.extra.all (·.upto S.nv) = true then
     .and (exec P Γ a S fun e T => match e with
       | .normal => match fits H T with
        | some vs => .inv r (vs ++ A.extra) T.facts .top
        | none => .no 91
       | e => k e T)
      (alls H.srts S fun S1 =>
       .hyp r hv (if (H.at_ S1.nv r hv).ok && decide (((H.at_ S1.nv r hv).blk.map (·.1)).Nodup) && decide (((H.at_ S1.nv r hv).row.map (·.m)).Nodup) then exec P Γ b (H.at_ S1.nv r hv) k else .no 92))
    else .no 93
 | .cond c x y, S, k =>
  match S.opd c with
  | some (.s (.one (.bool (.bool true)))) => exec P Γ x S k
  | some (.s (.one (.bool (.bool false)))) => exec P Γ y S k
  | some (.s (.one (.bool q))) =>
   if S.known.contains q = true then exec P Γ x S k
   else if S.known.contains (X.not q) = true then exec P Γ y S k
   else .and (.imp q (exec P Γ x (S.know q) k)) (.imp (X.not q) (exec P Γ y (S.know (X.not q)) k))
  | _ => .no 61
 | .block id c, S, k => exec P Γ c S fun e S' => match e with | .exit j => if j = id then k .normal S' else k e S' | e => k e S'
 | .exit id, S, k => k (.exit id) S
 | .ret, S, k => k .ret S
 | .loop c, S, k =>
  match (Code.first c).bind fun r => Γ.unroll.lookup r with
  | some n => rounds (exec P Γ c) n S k
  | none =>
  match (Code.first c).bind fun r => (Γ.loops.lookup r).map fun A => (r, A) with
  | none => .no 62
  | some (r, A) =>
   match headOf A c S with
   | none => .no 63
   | some H =>
    match fits H S with
    | none => .no 64
    | some us =>
     if S.ok ∧ us.length = H.srts.length ∧ A.extra.all (·.upto S.nv) = true then
      let hv := vars S.nv H.srts.length ++ (A.extra ++ vars (S.nv + H.srts.length) A.gh)
      exs (List.replicate A.gh .g) { S with nv := S.nv + H.srts.length } fun _ =>
      .inv r (us ++ (A.extra ++ vars (S.nv + H.srts.length) A.gh)) S.facts
       (alls (H.srts ++ List.replicate A.gh .g) S fun S1 =>
        .hyp r hv (if (H.at_ S1.nv r hv).ok && decide (((H.at_ S1.nv r hv).blk.map (·.1)).Nodup) && decide (((H.at_ S1.nv r hv).row.map (·.m)).Nodup) then exec P Γ c (H.at_ S1.nv r hv) (fun e T => match e with
         | .normal => match fits H T with
          | some vs => if T.ok && vs.all (·.upto T.nv) then exs (List.replicate A.gh .g) T fun _ => .inv r (vs ++ (A.extra ++ vars T.nv A.gh)) T.facts (.less r hv (vs ++ (A.extra ++ vars T.nv A.gh)) .top) else .no 66
          | none => .no 65
         | e => k e T) else .no 67))
     else .no 68
 | _, _, _ => .no 69
def resS (P : Program) (S : St) : List ResultVar → Option (List SV1)
 | [] => some []
 | .tmp t :: l => match S.get t, resS P S l with | some (.s v), some vs => some (v :: vs) | _, _ => none
 | .cell a t :: l =>
  match S.get a, resS P S l with
  | some (.s (.one (.own m off))), some vs => match S.block m with
   | some (_, cs) => (partS P t cs off).map fun v => v :: vs
   | none => none
  | _, _ => none
def lentS (S : St) : List (Nat × Nat) → Option (List (List C1))
 | [] => some []
 | p :: L => match S.block p.1, lentS S L with
  | some (t, cs), some l => if t = p.2 then some (cs :: l) else none
  | _, _ => none
def rowsS (P : Program) (S : St) : List (Nat × Nat × Nat) → Option (List X)
 | [] => some []
 | q :: R =>
  match S.block q.1, S.rowOf (cname q.1 q.2.1), P.info? q.2.2, rowsS P S R with
  | some (_, cs), some r, some i, some l => if cs[q.2.1]? = some (.row (cname q.1 q.2.1) r.n) ∧ r.e = q.2.2 ∧ r.size = i.size then some (.un (.co .l) r.xs :: l) else none
  | _, _, _, _ => none
def final (P : Program) (N : List Nat) (fn : Func) (pout : List Sh) (M : List (Nat × Nat)) (R : List (Nat × Nat × Nat)) (lls : List (List Lf)) (S : St) : VC :=
 match resS P S fn.results.toList with
 | none => .no 70
 | some vs =>
  let ms := dedup (vs.flatMap SV1.rowNames)
  if ms.any N.contains then .no 121 else
  expose (ms ++ R.map fun q => cname q.1 q.2.1) S fun S1 =>
   match flats S1 vs, retires ms S1, rowsS P S1 R with
   | some (shs, us), some S2, some rx =>
    match (lentS S1 M).map fun l => l.map (flat S1) with
    | some fl =>
     if shs = pout ∧ fl.map (Option.map (·.1)) = lls.map some then .ret (us ++ (rx ++ catX fl)) S2.facts else .no 71
    | none => .no 73
   | _, _, _ => .no 72
def lentB : List (Nat × Nat) → List (List Lf) → Nat → List (Nat × Nat × List C1)
 | p :: L, lf :: lls, n => (p.1, p.2, freshs n lf) :: lentB L lls (n + lfsAr lf)
 | _, _, _ => []
def start (fn : Func) (pin : List Sh) (own : Nat) (M : List (Nat × Nat)) (nr : Nat) (lls : List (List Lf)) : St :=
 { nt := max fn.params.size fn.ntmps, fr := ((shsFresh 0 pin).zipIdx.map fun p => (p.2, SV.s (if (M.map (·.1)).contains p.2 then .one (.own p.2 0) else p.1))), blk := lentB M lls (lfsAr (shsLfs pin) + nr), row := [], nv := lfsAr (shsLfs pin) + nr + lfsAr lls.flatten + own, facts := [.pre] }
def mclaims (R : List (Nat × Nat × Nat)) : List (Nat × Nat × Nat × Nat) := R.map fun q => (cname q.1 q.2.1, q)
def vcOf (P : Program) (Γ : Cfg) (f : Nat) : VC :=
 match P.funcs[f]? with
 | none => .no 80
 | some fn =>
  match shsOf P fn.params, shsOf P fn.resultTypes, lentsLfs P Γ.mine, fn.body with
  | some pin, some pout, some lls, some body => if Γ.lnm.Nodup then (match claims P (mclaims Γ.mrows) (vars (lfsAr (shsLfs pin)) Γ.mrows.length) (start fn pin Γ.own Γ.mine Γ.mrows.length lls) with | none => .no 84 | some S0 => exec P Γ body S0 fun e S => match e with | .normal | .ret => final P Γ.lnm fn pout Γ.mine Γ.mrows lls S | _ => .no 81) else .no 83
  | _, _, _, _ => .no 82
end Go.Proofs.Ytgjbcahpgkchfaa.Vc
